/-
 Texts of the proof,put together: part 4.
-/
import Derived.Test.YtpdfmcmnjikppaaGreatSS1
import Derived.Test.YtpdfmcmnjikppaaGreatSS2
import Derived.Test.YtpdfmcmnjikppaaGreatSS3
import Derived.Test.YtpdfmcmnjikppaaGreatProg
import Derived.WalkKit
import Derived.ProofKit
import Derived.Shelf.RegionOpenPlain
import Derived.Deep.RegionLaw
import Derived.Deep.LoopGhost
import Derived.Lib.SliceRun
import Derived.Lib.AppendZerosOnto
import Derived.Lib.Hide
import Derived.OwnWalk
set_option linter.unusedSimpArgs false
set_option linter.unusedVariables false
set_option linter.unusedSectionVars false
noncomputable section
namespace Go.Proofs.YtpdfmcmnjikppaaGreat
abbrev g9:=@Int.natCast_zero
abbrev j9:=@of_decide_eq_true
abbrev m0:=@List.mem_range
abbrev p7:=@Bool.eq_iff_iff
abbrev s8:=@Bool.true_and
abbrev v8:=@beq_eq_false_iff_ne
abbrev w8:=@decide_eq_true
abbrev z8:=@Addr.add_lit
abbrev B8:=@List.any_eq_true
abbrev D2:=@Bool.and_true
abbrev E9:=@Region.noSelect_spec
abbrev G7:=@decide_eq_false
abbrev H7:=@List.length_range
abbrev I7:=@Nat.lt_succ_self
abbrev J0:=@List.drop_append_of_le_length
abbrev J3:=@Array.any_eq_true'
abbrev J4:=@Bool.false_ne_true
abbrev K6:=@Array.setIfInBounds_comm
abbrev L0:=@World.ownsRow_made
abbrev L7:=@List.range_succ_eq_map
abbrev M4:=@Region.free_spec
abbrev N3:=@List.find?_some
abbrev N4:=@List.cons.injEq
end Go.Proofs.YtpdfmcmnjikppaaGreat
namespace Go.Proofs.YtpdfmcmnjikppaaGreat
noncomputable abbrev f4:=Tryz.prog
open Go.RowKit
section
variable {P:Program} {ops:Array Oper}
def QF:Exit->Act->World->Prop:=fun _ _ _=>False
theorem amw{o:Oper}{a:Act}{w:World}{K V:Act->World->Prop}{Q:Exit->Act->World->Prop}(U:∀a w,K a w->V a w)(J:o.wp P a w K QF):o.wp P a w V Q:=by
 unfold Oper.wp at *;generalize (execOp a.eval o).run P w=r at *;cases r with
 | ok n w' =>
  cases n <;> simp only[Oper.upon] at J ⊢
  case value=>exact U _ _ J
  case skip=>exact U _ _ J
  case defer=>exact U _ _ J
  case enter =>
   refine Calls.mono J fun e Y O=>?_
   cases e with
   | returned v=>exact U _ _ O
   | panicked c=>exact O.elim
   | outgrown=>obtain⟨_,_,h⟩:=O;exact h.elim
  case row=>exact Rows.mono J fun _ _ O=>U _ _ O
 | halt x w' =>cases x <;> simp only[Oper.upon] at J;exact J.elim
theorem abm{i:Nat}{a:Act}{w:World}{K U:Act->World->Prop}{Q:Exit->Act->World->Prop}(O:∀a w,K a w->U a w)(J:wpOp P ops QF i K a w):wpOp P ops Q i U a w:=by
 unfold wpOp at *
 split
 ·exact O _ _ (by simpa [*] using J)
 ·rename_i o V;simp only[V] at J
  split
  ·rename_i hw;simp only[hw,if_true] at J;rcases J with J | ⟨_,_,_,hl⟩
   ·exact .inl (amw O J)
   ·exact hl.elim
  ·rename_i hw;simp only[hw] at J;exact O _ _ J
def ST(ops:Array Oper)(B:Nat)(i:Nat)(w w':World):Prop:=w.heap.size<=w'.heap.size/\(MK ops i=false->∀o,ops[i]?=some o->(calm o=true->Below w.heap.size w w')/\(pX ops o=true->Below B w w'))
theorem ST.refl{ops:Array Oper}{B i:Nat}{w:World}:ST ops B i w w:=⟨g8 _,fun _ _ _=>⟨fun _=>Below.refl _ _,fun _=>Below.refl _ _⟩⟩
def ET(P:Program)(ops:Array Oper)(B:Nat)(Q:Act->World->Prop):Nat->Array Bool->Act->World->Prop
 | 0,listed,a,w=>Region.ready .any ops listed = []/\Q a w
 | n+1,listed,a,w =>
  (Region.ready .any ops listed = []->Q a w) /\
  ∀i∈Region.ready .any ops listed,wpOp P ops QF i (fun J w'=>ST ops B i w w'/\ET P ops B Q n (listed.setIfInBounds i true) J w') a w
theorem AP{B:Nat}{Q:Act->World->Prop}{U:Exit->Act->World->Prop}(O:∀a w,Q a w->U .normal a w):∀(n:Nat) (J:Array Bool) (a:Act) (w:World),ET P ops B Q n J a w->wpAny P .any ops U n J a w
 | 0,_,_,_,h=>⟨h.1,O _ _ h.2⟩
 | n+1,_,_,_,h=>⟨fun Z=>O _ _ (h.1 Z),fun i hi=>abm (fun Y w' V=>AP O n _ Y w' V.2) (h.2 i hi)⟩
def kV(P:Program)(ops:Array Oper)(B:Nat)(o:Oper)(v:Value)(a:Act)(w:World):Prop:=
 (Region.wanted o (yielded ops a.tmps)=true/\∀w',(Below B w w'\/sf o=true)->(execOp a.eval o).run P w'=.ok (.value v) w')\/(Region.wanted o (yielded ops a.tmps)=false/\v=undef)
theorem kV.wpOp{B i:Nat}{o:Oper}{v:Value}{a:Act}{w:World}{Q:Exit->Act->World->Prop}(hi:ops[i]?=some o)(J:kV P ops B o v a w){K:Act->World->Prop}(h:K (a.put o.dst v) w):wpOp P ops Q i K a w:=by
 unfold Go.wpOp;simp only[hi];rcases J with⟨hw,hv⟩ | ⟨hw,rfl⟩
 ·simp only[hw,if_true,Oper.wp,hv w (.inl (Below.refl _ _)),Oper.upon];exact .inl h
 ·simp only[hw,u4,if_false];exact h
theorem kV.later{B:Nat}{o:Oper}{v:Value}{a:Act}{w w':World}(O:kV P ops B o v a w)(h:Below B w w'\/sf o=true):kV P ops B o v a w':=by
 rcases O with⟨hw,hv⟩ | O
 ·refine .inl ⟨hw,fun U J=>hv U ?_⟩;rcases h with h | h
  ·exact J.imp (fun J=>h.trans J) id
  ·exact .inr h
 ·exact .inr O
theorem XG{B j:Nat}{oi J:Oper}{v:Value}{w:World}(hj:ops[j]?=some J)(a1:oi.apart ops J=true)(Y:∀cs b,oi.op≠.select cs b)(a2:∀cs b,J.op≠.select cs b){K:Act->World->Prop}{a:Act}
  (hy:kV P ops B oi v a w) (h:wpOp P ops QF j K (a.put oi.dst v) w):wpOp P ops QF j (fun a' w'=>kV P ops B oi v a' w/\K (a'.put oi.dst v) w') a w:=by
 obtain⟨h1,O,Z⟩:=Oper.apart_spec a1;have keep:∀u,kV P ops B oi v (a.put J.dst u) w:=fun u=>by unfold kV at *;rw[execOp_put oi Y a J.dst u Z,wanted_put oi a J.dst u Z];exact hy
 unfold wpOp at *;simp only[hj] at *;rw[wanted_put J a oi.dst v h1] at h
 split
 ·rename_i hw;simp only[hw,if_true] at h;rcases h with h | ⟨_,_,_,hl⟩
  ·refine .inl ?_;unfold Oper.wp at *;rw[execOp_put J a2 a oi.dst v h1] at h;generalize (execOp a.eval J).run P w=r at *;cases r with
   | ok n w' =>
    cases n <;> simp only[Oper.upon] at h ⊢
    case value u=>exact⟨keep u,by rw[<- Act.put_comm a v u O];exact h⟩
    case skip=>exact⟨keep _,by rw[<- Act.put_comm a v undef O];exact h⟩
    case defer d =>
     refine⟨?_,?_⟩
     ·have:=keep undef;unfold kV at this ⊢;cases V:J.dst <;> rw[V] at this <;> exact this
     ·rw[<- Act.put_comm _ v undef O,<- Act.put_defers];exact h
    case enter f args =>
     refine Calls.mono h fun e a0 U=>?_
     cases e with
     | returned u=>exact⟨keep u,by rw[<- Act.put_comm a v u O];exact U⟩
     | panicked c=>exact U.elim
     | outgrown=>exact U
    case row row args=>exact Rows.mono h fun u a0 U=>⟨keep u,by rw[<- Act.put_comm a v u O];exact U⟩
   | halt x w' =>cases x <;> simp only[Oper.upon] at h;exact h.elim
  ·exact hl.elim
 ·rename_i hw;simp only[hw] at h;exact⟨keep _,by rw[<- Act.put_comm a v undef O];exact h⟩
def wZ(ops:Array Oper)(J:Array Bool)(i:Nat)(S:Nat->Bool):Prop:=∀j,S j=true->J.getD j true=false/\∃O,ops[j]?=some O/\∃e∈O.after,Region.binds .any e=true/\(e.on=i\/S e.on=true)
theorem wZ.none{ops:Array Oper}{J:Array Bool}{i:Nat}:wZ ops J i (fun _=>false):=fun j h=>by cases h
def nF(ops:Array Oper)(J:Array Bool):Prop:=∀k ok,ops[k]?=some ok->J.getD k false=true->∀e∈ok.after,Region.binds .any e=true->J.getD e.on false=true
theorem nF.start(ops:Array Oper):nF ops (Array.replicate ops.size false):=fun k ok hk J=>by have:=(t7.1 hk).1;simp[this] at J
theorem nF.step{ops:Array Oper}{J:Array Bool}{i:Nat}(h:nF ops J)(hi:i∈Region.ready .any ops J):nF ops (J.setIfInBounds i true):=fun k ok hk Y e Z hb=>by
 by_cases U:i=k
 ·subst U;obtain⟨_,o,O,V⟩:=mem_ready.1 hi;rw[hk] at O;injection O with O;subst O
  exact getD_set_true (V e Z hb)
 ·rw[getD_set_ne false U] at Y;exact getD_set_true (h k ok hk Y e Z hb)
theorem Xm{J:Array Bool}{i:Nat}(h:J.getD i true=false):J.getD i false=true->False:=fun O=>by
 rcases A6 i J.size with hl | hl
 ·simp[hl] at h O;rw[h] at O;cases O
 ·simp[F1 hl] at h
theorem aiZ{ops:Array Oper}(h:Zy ops=true){j:Nat}{O:Oper}(J:ops[j]?=some O){e:Edge}(U:e∈O.after):e.on<j:=by have:=i6.1 h j (m0.2 (t7.1 J).1);simp only[J] at this;simpa using Array.all_eq_true_iff_forall_mem.1 this e U
theorem QS{ops:Array Oper}{J:Array Bool}{i j:Nat}(hb:Zy ops=true)(a6:nF ops J)(hi:J.getD i true=false)(h:SY ops i j=true)(hj:j∈Region.ready .any ops J):False:=by
 unfold SY at h;rw[a9] at h;obtain⟨h1,Y⟩:=h;have Y:∃S,wZ ops (Array.replicate ops.size false) i S/\S j=true:=by
  refine⟨fun j=>(Vk ops (Array.replicate ops.size false) i).contains j,fun j hj=>?_,Y⟩;have:=i6.1 h1 j (u7.1 hj);simp only[a9,m6] at this;obtain⟨h1,Y⟩:=this;refine⟨h1,?_⟩
  split at Y
  ·rename_i oj a0;obtain⟨e,Z,hb⟩:=J3.1 Y;simp only[a9,y9,p6] at hb;exact⟨oj,a0,e,Z,hb.1,hb.2⟩
  ·cases Y
 obtain⟨S,hW,a5⟩:=Y;have a4:∀k,S k=true->J.getD k false=true->False:=by
  intro k
  induction k using Nat.strongRecOn with
  | _ k ih =>
  intro hk hl;obtain⟨_,ok,a2,e,Z,a1,O⟩:=hW k hk;have U:=a6 k ok a2 hl e Z a1;rcases O with O | O
  ·rw[O] at U;exact Xm hi U
  ·exact ih e.on (aiZ hb a2 Z) O U
 obtain⟨_,oj,a0,e,Z,a1,O⟩:=hW j a5;obtain⟨_,a7,V,a3⟩:=mem_ready.1 hj;rw[a0] at V;injection V with V;subst V;have U:=a3 e Z a1;rcases O with O | O
 ·rw[O] at U;exact Xm hi U
 ·exact a4 e.on O U
theorem aiz{ops:Array Oper}{J:Array Bool}{i j:Nat}(O:nF ops J)(hi:i∈Region.ready .any ops J)(V:j∈Region.ready .any ops J)(Y:j≠i){oi:Oper}(U:ops[i]?=some oi):MK ops j=false\/sf oi=true:=by
 cases h:MK ops j with
 | false=>exact .inl rfl
 | true =>
  refine .inr ?_;unfold MK at h;rw[a9] at h;have:=i6.1 h.2 i (m0.2 (t7.1 U).1);simp only[y9,p6,Ne.symm Y,false_or,U] at this;rcases this with (h1 | h1) | h1
  ·exact (QS h.1 O (mem_ready.1 hi).1 h1 V).elim
  ·exact (QS h.1 O (mem_ready.1 V).1 h1 hi).elim
  ·exact h1
theorem om{B V:Nat}{Q:Act->World->Prop}{i:Nat}{oi:Oper}{v:Value}{S:Nat->Bool}(hi:ops[i]?=some oi)(a3:∀(j:Nat) (o:Oper) cs b,ops[j]?=some o->o.op≠.select cs b) :
  ∀(n:Nat) (J:Array Bool) (a:Act) (w:World),
   nF ops J->wZ ops J i S->(∀j U,ops[j]?=some U->j≠i->J.getD j true=false->S j=false->(∀e∈U.after,Region.binds .any e=true->e.on≠i)->oi.apart ops U=true/\(calm U=true\/pX ops U=true/\V=B))->V<=w.heap.size ->
   i∈Region.ready .any ops J->kV P ops V oi v a w->ET P ops B Q n (J.setIfInBounds i true) (a.put oi.dst v) w->ET P ops B Q (n+1) J a w:=by
 intro n
 induction n with
 | zero =>
  intro J a w _ _ _ _ hr hy H;refine⟨fun h=>(by rw[h] at hr;cases hr),fun j hj=>?_⟩;by_cases O:j=i
  ·subst O;exact hy.wpOp hi ⟨ST.refl,H⟩
  ·have:=ready_mono hj O;rw[H.1] at this;cases this
 | succ n ih =>
  intro J a w b1 hS a0 a7 hr hy H;refine⟨fun h=>(by rw[h] at hr;cases hr),fun j hj=>?_⟩;by_cases O:j=i
  ·subst O;exact hy.wpOp hi ⟨ST.refl,H⟩
  ·have h1:=H.2 j (ready_mono hj O);obtain⟨a1,U,Z,a4⟩:=mem_ready.1 hj;have a2:∀e∈U.after,Region.binds .any e=true->e.on≠i:=fun e he hb b3=>by
    have h1:=a4 e he hb;have h0:=(mem_ready.1 hr).1;rw[b3] at h1;rcases A6 i J.size with h' | h'
    ·simp[h'] at h0 h1;rw[h0] at h1;cases h1
    ·simp[F1 h'] at h1
   have a6:S j=false:=by
    cases c2:S j with
    | false=>rfl
    | true =>
     obtain⟨_,c3,Y,e,he,hb,ho⟩:=hS j c2;rw[Z] at Y;injection Y with Y;subst Y;rcases ho with ho | ho
     ·exact absurd ho (a2 e he hb)
     ·have h1:=a4 e he hb;have h0:=(hS e.on ho).1;rcases A6 e.on J.size with h' | h'
      ·simp[h'] at h0 h1;rw[h0] at h1;cases h1
      ·simp[F1 h'] at h1
   obtain⟨b4,a5⟩:=a0 j U Z O a1 a6 a2;have h2:=XG Z b4 (fun cs b=>a3 i oi cs b hi) (fun cs b=>a3 j U cs b Z) hy h1;refine abm (fun a' w' h3=>?_) h2;obtain⟨h3,h4,h5⟩:=h3;have c1:Below V w w'\/sf oi=true:=by
    rcases aiz b1 hr hj O hi with hal | hnm
    ·obtain⟨g1,g2⟩:=h4.2 hal U Z;rcases a5 with hc | ⟨hc,rfl⟩
     ·exact .inl ((g1 hc).mono a7)
     ·exact .inl (g2 hc)
    ·exact .inr hnm
   refine⟨h4,ih (J.setIfInBounds j true) a' w' (b1.step hj) (fun k hk=>by
    obtain⟨q1,q2⟩:=hS k hk;refine⟨?_,q2⟩;have b2:j≠k:=fun e=>by rw[<- e,a6] at hk;cases hk
    rw[getD_set_ne true b2];exact q1) (fun k ok hk b6 b0 c0 b5=>?_) (o8 a7 h4.1) (ready_mono hr (Ne.symm O)) (h3.later c1) ?_⟩
   ·refine a0 k ok hk b6 ?_ c0 b5;by_cases a8:j=k
    ·subst a8;exact a1
    ·rw[getD_set_ne true a8] at b0;exact b0
   ·rw[K6 _ _ O];exact h5
end
section
variable [Low] {P:Program} {w w':World} {g g':G} {base:Nat} {σ:St} {a:Act}
theorem aeJ{call:FuncId->List T->Option (T × Bool)}{o:Oper}(h:isQ o=true):Gz P call σ o=rp P σ o:=by
 obtain⟨dst,op,O,J,after,guard⟩:=o;cases op with
 | assign x =>
  cases x with
  | const v=>cases v with
   | slice A n c =>
    cases A with
    | none=>cases n with
     | zero=>cases c with
      | zero=>simp[isQ] at h
      | succ c=>cases dst <;> rfl
     | succ n=>cases dst <;> rfl
    | some A=>cases dst <;> rfl
   | _=>cases dst <;> rfl
  | _=>cases dst <;> rfl
 | call c =>
  obtain⟨callee,args,ts⟩:=c;cases callee with
  | builtin b=>cases b <;> first | (simp[isQ] at h;done) | rfl
  | _=>simp[isQ] at h
 | _=>first | (simp[isQ] at h;done) | (cases dst <;> rfl)
theorem CE(O:Rel P w g base σ a){o:Oper}{J:St}(U:∀d,o.dst=some d->d<a.tmps.size)(h:rp P σ o=some (J,true)) :
  ∃z,(∀w',(Below w.heap.size w w'\/sf o=true)->(execOp a.eval o).run P w'=.ok (.value z) w')/\Rel P w g base J (a.put o.dst z):=by
 unfold rp at h
 split at h
 ·rename_i v ok V;simp only[b7,i8] at h;obtain⟨rfl,rfl⟩:=h;obtain⟨z,h1,Y⟩:=aeF O V;exact⟨z,h1,O.put U Y⟩
 ·cases h
structure WV(o:Oper)(a:Act)(z:Value)(w w':World):Prop where
 calm:calm o=true->Below w.heap.size w w'
 pure:isQ o=true->w'=w
 box:isA o=true->z=.pointer (some ⟨w.heap.size,0,none⟩)
 store:∀t d x B,o.op=.store t (.tmp d) x->(∀b off,a.tmps.getD d undef=.pointer (some ⟨b,off,none⟩)->B<=b)->Below B w w'
theorem afP{call:FuncId->List T->Option (T × Bool)}(J:∀f args r ok,call f args=some (r,ok)->r.sh.isW=false){dst:Option Nat}{f:Operand}{xs:List Operand}{r:St × Bool}(h:aeQ P call σ dst f xs=some r):False:=by
 unfold aeQ at h
 split at h
 ·split at h
  ·split at h
   ·rename_i V ok U;have hw:=J _ _ _ _ U;rename_i t _ _ _;cases O:(bk P _==some [.int .i64]&&t.1 != 1000001) with
    | false=>rw[O] at h;cases h
    | true =>
     rw[O,f8] at h
     split at h
     ·rename_i e;rw[e] at hw;cases hw
     ·rename_i e;rw[e] at hw;cases hw
     ·cases h
   ·cases h
  ·cases h
 ·cases h
theorem ajt{call:FuncId->List T->Option (T × Bool)}(J:∀f args r ok,call f args=some (r,ok)->r.sh.isW=false){dst:Option Nat}{f:Operand}{xs:List Operand}{V:List TypeId}{r:St × Bool}(h:evW P call σ dst f xs V=some r):False:=by
 unfold evW at h
 split at h
 ·rename_i r0 Y;exact afP J Y
 ·split at h
  ·rename_i r0 hk;clear h;have h:=hk;clear hk;unfold evK at h
   split at h
   ·split at h
    ·split at h
     ·split at h
      ·rename_i U ok O;have hw:=afR (J _ _ _ _ O);rw[hw,y7,y7,y7,y7] at h;cases h
      ·cases h
     ·cases h
    ·cases h
   ·cases h
  ·split at h
   ·rename_i r0 hi;clear h;have h:=hi;clear hi;simp[ajO] at h
   ·split at h
    ·rename_i r0 hi;clear h;have h:=hi;clear hi;unfold evX at h
     split at h
     ·split at h
      ·split at h
       ·split at h
        ·rename_i U ok O;have hw:=aao (J _ _ _ _ O);rw[hw,y7,y7] at h;cases h
        ·cases h
       ·split at h
        ·rename_i U ok O;have hw:=aao (J _ _ _ _ O);rw[hw,y7,y7,y7,y7,y7,y7] at h;cases h
        ·cases h
       ·cases h
      ·cases h
     ·cases h
    ·simp[evM] at h
theorem adB{call:FuncId->List T->Option (T × Bool)}(U:∀f args r ok,call f args=some (r,ok)->r.sh.isW=false){d:Nat}{f:Operand}{xs:List Operand}{O:List TypeId}{r:St × Bool}(h:Xg P call σ d f xs O=some r):False:=by
 unfold Xg at h
 split at h
 ·split at h
  ·split at h
   ·rename_i Y ok V
    split at h
    ·rename_i cs J;have:=U _ _ _ _ V;rw[J] at this;cases this
    ·cases h
   ·cases h
  ·cases h
 ·cases h
theorem ajZ{call:FuncId->List T->Option (T × Bool)}(U:∀f args r ok,call f args=some (r,ok)->r.sh.isW=false){d:Nat}{f:Operand}{xs:List Operand}{O:List TypeId}{r:St × Bool}(h:evT P call σ d f xs O=some r):False:=by
 unfold evT at h
 split at h
 ·split at h
  ·split at h
   ·rename_i Y ok V
    split at h
    ·rename_i cs az J hz;have:=U _ _ _ _ V;rw[J] at this;cases this
    ·cases h
   ·cases h
  ·cases h
 ·cases h
theorem ajr{call:FuncId->List T->Option (T × Bool)}(J:∀f args r ok,call f args=some (r,ok)->r.sh.isW=false){d:Nat}{f:Operand}{xs:List Operand}{r:St × Bool}(h:evP P call σ d f xs=some r):False:=by
 unfold evP at h
 split at h
 ·split at h
  ·split at h
   ·split at h
    ·split at h
     ·rename_i U ok O;have hw:=J _ _ _ _ O
      split at h
      ·rename_i e;rw[e] at hw;cases hw
      ·cases h
     ·cases h
    ·cases h
   ·cases h
  ·cases h
 ·cases h
theorem Kq(Y:Rel P w g base σ a){call:FuncId->List T->Option (T × Bool)}(a3:av P call)(a1:∀f args r ok,call f args=some (r,ok)->r.sh.isW=false){o:Oper}{a2:St}(V:∀d,o.dst=some d->d<a.tmps.size)(h:Gz P call σ o=some (a2,true)) :
  ∀(K:Act->World->Prop) (Q:Exit->Act->World->Prop),(∀z w' g',Rel P w' g' base a2 (a.put o.dst z)->Below base w w'->WV o a z w w'->K (a.put o.dst z) w')->o.wp P a w K Q:=by
 intro K Q hK;cases hs:(match o.op with | .store _ _ _=>true | _=>false) with
 | true =>
  obtain⟨dst,op,U,J,after,guard⟩:=o;cases op with
  | store t p x =>
   obtain⟨z,w',g',h1,O,Z,h4⟩:=Hw (o:=⟨dst,.store t p x,U,J,after,guard⟩) Y rfl V (by cases dst <;> exact h);have hA:WV ⟨dst,.store t p x,U,J,after,guard⟩ a z w w':=⟨fun h=>by cases dst <;> simp[calm,isQ,isC,isA,isM] at h,fun h=>by simp[isQ] at h,fun h=>by cases dst <;> simp[isA] at h,fun t' d x' B he hB=>h4 B fun b o hb=>by
    injection he with _ e2 _
    subst e2;exact hB b o hb⟩
   unfold Oper.wp;rcases h1 with h1 | ⟨h1,rfl⟩
   ·rw[h1];exact hK z w' g' O Z hA
   ·rw[h1];exact hK undef w' g' O Z hA
  | _=>simp at hs
 | false =>
 have a0:∀t d x,o.op≠.store t d x:=fun t d x e=>by rw[e] at hs;cases hs
 cases hc:calm o with
 | false=>exact sy Y a3 V h K Q fun z w' g' h1 O=>hK z w' g' h1 O ⟨fun h=>by rw[hc] at h;(cases h),fun h=>by simp[calm,h] at hc,fun h=>by simp[calm,h] at hc,fun t d x _ e=>absurd e (a0 t _ x)⟩
 | true =>
  cases hq:isQ o with
  | true =>rw[aeJ hq] at h;obtain⟨z,h1,O⟩:=CE Y V h;unfold Oper.wp;rw[h1 w (.inl (Below.refl _ _))];exact hK z w g O (Below.refl _ _) ⟨fun _=>Below.refl _ _,fun _=>rfl,fun h=>by obtain⟨dst,op,U,J,after,guard⟩:=o;cases op <;> first | (simp[isQ] at hq;done) | (simp[isA] at h;done),fun t d x _ e=>absurd e (a0 t _ x)⟩
  | false =>
   cases ha:isA o with
   | true =>
    obtain⟨dst,op,U,J,after,guard⟩:=o;cases op with
    | alloc t =>
     cases dst with
     | none=>simp[isA] at ha
     | some d =>obtain⟨z,w',g',h1,O,Z,h4,h5⟩:=mY (o:=⟨some d,.alloc t,U,J,after,guard⟩) Y rfl rfl V h;unfold Oper.wp;rw[h1];exact hK z w' g' O Z ⟨fun _=>h4,fun h=>by simp[isQ] at h,fun _=>h5,fun t d x _ e=>absurd e (a0 t _ x)⟩
    | _=>simp[isA] at ha
   | false =>
    cases hm:isM o with
    | true =>
     have a6:wU P base a2 o a w:=by
      obtain⟨dst,op,U,J,after,guard⟩:=o;cases dst with
      | none=>cases op <;> first | (simp[isM] at hm;done) | (unfold isM at hm;split at hm <;> simp_all)
      | some d =>
       cases op with
       | box t x=>exact WK (o:=⟨some d,.box t x,U,J,after,guard⟩) Y rfl rfl V h
       | build t ps=>exact Ma (o:=⟨some d,.build t ps,U,J,after,guard⟩) Y rfl rfl V h
       | buildSlice t n ps =>
        have h:(bif rh call d then lV P σ d t n ps.toList else oy P σ d t n ps.toList)=some (a2,true):=h;cases a4:rh call d with
        | false=>rw[a4,f5] at h;exact uP (o:=⟨some d,.buildSlice t n ps,U,J,after,guard⟩) Y rfl rfl V h
        | true=>rw[a4,f8] at h;exact sv (o:=⟨some d,.buildSlice t n ps,U,J,after,guard⟩) Y rfl rfl V h
       | makeSlice t n c=>exact xq (o:=⟨some d,.makeSlice t n c,U,J,after,guard⟩) Y rfl rfl V h
       | assign x =>
        have hx:x=.const (.slice none 0 0):=by
         unfold isM at hm
         split at hm <;> simp_all
        subst hx;exact Xe (o:=⟨some d,.assign (.const (.slice none 0 0)),U,J,after,guard⟩) Y rfl rfl V h
       | _=>simp[isM] at hm
     obtain⟨z,w',g',h1,O,Z,h4⟩:=a6;have hA:WV o a z w w':=⟨fun _=>h4,fun h=>(by rw[hq] at h;cases h),fun h=>(by rw[ha] at h;cases h),fun t d x _ e=>absurd e (a0 t _ x)⟩;unfold Oper.wp;rcases h1 with h1 | ⟨h1,rfl⟩
     ·rw[h1];exact hK z w' g' O Z hA
     ·rw[h1];exact hK undef w' g' O Z hA
    | false =>
    have a5:isC o=true:=by simpa [calm,hq,ha,hm] using hc
    obtain⟨dst,op,U,J,after,guard⟩:=o;cases op with
    | call c =>
     obtain⟨callee,args,ts⟩:=c;cases callee with
     | value f =>
      cases dst with
      | none=>simp only[Gz,rp,evQ] at h;cases h
      | some d =>
       simp only[Gz] at h
       split at h
       ·rename_i r he;exact (ajt a1 he).elim
       ·split at h
        rotate_left
        ·split at h
         ·rename_i r he;exact (adB a1 he).elim
         ·split at h
          ·rename_i r he;exact (ajZ a1 he).elim
          ·exact (ajr a1 h).elim
        rename_i r he;injection h with h
        subst h;exact Qw Y a3 rfl rfl V he K Q fun z w' g' h1 O Z=>hK z w' g' h1 O ⟨fun _=>Z,fun h=>by simp[isQ] at h,fun h=>by simp[isA] at h,fun t d x _ e=>absurd e (a0 t _ x)⟩
     | _=>simp[isC] at a5
    | _=>simp[isC] at a5
theorem ta(V:Rel P w g base σ a){ops:Array Oper}(a0:∀o∈ops.toList,∀d,o.dst=some d->d<a.tmps.size){o:Oper}{y k:St->R}{key:Option Dom}{out:Nat × b8}(Y:∀d,o.dst=some d->d<a.tmps.size)
  (h:qF ops σ o y k=some (key,some out)) :
  (Region.wanted o (yielded ops a.tmps)=true/\∃J O,Rel P w g base J a/\y J=some (O,some out)) \/
  (Region.wanted o (yielded ops a.tmps)=false/\∃J O,Rel P w g base J (a.put o.dst undef)/\k J=some (O,some out)):=by
 have hw:=yq V a0 (o:=o);have rU:∀ {σ:St},Rel P w g base σ a->Rel P w g base (σ.put o.dst .none_) (a.put o.dst undef):=fun V=>V.put Y (t:=.none_) ⟨#[],rfl,rfl,fun j x h=>by simp at h⟩
 unfold qF at h;cases hq:KR ops σ o with
 | yes=>rw[hq] at h hw;exact .inl ⟨hw,σ,key,V,h⟩
 | no=>rw[hq] at h hw;exact .inr ⟨hw,_,key,rU V,h⟩
 | ask t gg b =>
  rw[hq] at h hw;simp only at h hw;obtain⟨ht,hv,hw⟩:=hw;obtain⟨h1,h2⟩:=mF h;have U:∀c:Bool,gg=c->Rel P w g base (σ.put (some t) (.c (.kb c) D0)) a:=fun c hc=>by
   have:=V.put (dst:=some t) (fun d Y=>by injection Y with Y;subst Y;exact ht) (t:=.c (.kb c) D0) (v:=.bool gg) (by rw[hc];exact rfl);have e:a.put (some t) (.bool gg)=a:=by
    rw[<- hv];obtain⟨tm,df⟩:=a;simp only[Act.put]
    congr 1
    refine Array.ext_getElem? fun i=>?_
    rw[E0]
    split
    ·rename_i e;subst e;have Z:t<tm.size:=ht
     first
      | exact (n3 Z).symm
      | (rw[j8 Z,y3,n3 Z];rfl)
    ·rfl
   rwa [e] at this
  cases gg with
  | true =>
   obtain⟨k',h1⟩:=h1 rfl;cases b with
   | true=>exact .inl ⟨by rw[hw];rfl,_,k',U true rfl,h1⟩
   | false=>exact .inr ⟨by rw[hw];rfl,_,k',rU (U true rfl),h1⟩
  | false =>
   obtain⟨k',h2⟩:=h2 rfl;cases b with
   | true=>exact .inr ⟨by rw[hw];rfl,_,k',rU (U false rfl),h2⟩
   | false=>exact .inl ⟨by rw[hw];rfl,_,k',U false rfl,h2⟩
 | bad=>rw[hq] at h;cases h
theorem afV{ops:Array Oper}{J:Array Bool}{i:Nat}{S:List Nat}(h:RG ops J i S=true):wZ ops J i (fun j=>S.contains j):=by
 intro j Y;have:=i6.1 h j (u7.1 Y);simp only[a9,m6] at this;obtain⟨h1,O⟩:=this;refine⟨h1,?_⟩
 split at O
 ·rename_i oj V;obtain⟨e,Z,U⟩:=J3.1 O;simp only[a9,y9,p6] at U;exact⟨oj,V,e,Z,U.1,U.2⟩
 ·cases O
theorem VU{ops:Array Oper}{J:Array Bool}{i:Nat}{oi:Oper}(hi:ops[i]?=some oi)(h:wx ops J i=true) :
  isQ oi=true/\∃S,wZ ops J i S/\∀j O,ops[j]?=some O->j≠i->J.getD j true=false->S j=false->(∀e∈O.after,Region.binds .any e=true->e.on≠i)->oi.apart ops O=true/\calm O=true:=by
 unfold wx at h;rw[y9] at h;rcases h with h | h
 ·unfold NN at h;simp only[hi,a9] at h;obtain⟨⟨⟨_,h1⟩,h2⟩,h3⟩:=h;refine⟨h1,_,afV h2,fun j O Y U V hS Z=>?_⟩;have:=i6.1 h3 j (m0.2 (t7.1 Y).1);simp only[Y,y9,p6,U,false_or,V,hS,u4,a9] at this;exact this
 ·simp only[hi,a9] at h;obtain⟨⟨h1,h2⟩,h3⟩:=h;refine⟨h1,_,wZ.none,fun j O Y U V _ Z=>⟨M4 hi h2 j O Y U V Z,?_⟩⟩;have:=i6.1 h3 j (m0.2 (t7.1 Y).1);simp only[Y,y9,p6,U,false_or,V,u4] at this;rcases this with h | h
  ·exact h
  ·obtain⟨e,he,hb⟩:=J3.1 h;simp only[a9,p6] at hb;exact absurd hb.2 (Z e he hb.1)
theorem adw{ops:Array Oper}{J:Array Bool}{i:Nat}{oi:Oper}(Z:Eb ops=true)(hi:ops[i]?=some oi)(h:wx ops J i=true) :
  isQ oi=true/\∀j O,ops[j]?=some O->j≠i->J.getD j true=false->(∀e∈O.after,Region.binds .any e=true->e.on≠i)->oi.apart ops O=true:=by
 unfold wx at h;have e:NN ops J i=false:=by unfold NN;rw[hi,Z];rfl
 rw[e,F5] at h;simp only[hi,a9] at h;exact⟨h.1.1,fun j O hj V Y U=>M4 hi h.1.2 j O hj V Y U⟩
structure adn(σ τ:St):Prop where
 env:∀i,bZ i σ.e σ.r=bZ i τ.e τ.r
 box:∀i,bH i σ.h=bH i τ.h
theorem Rel.same(J:Rel P w g base σ a){O:St}(h:adn σ O):Rel P w g base O a:=
 ⟨fun i=>by rw[<- h.env i];exact J.env i,fun id cs ds U=>J.box id cs ds (by rw[h.box id];exact U),J.fresh,J.base_le,J.defers,J.low,J.mine⟩
theorem KZ(d O:Nat)(c:Ce):eW d (eW O c)=eW O (eW d c):=by
 cases c with
 | own t x e=>cases x <;> cases h:(t.1==d) <;> cases J:(t.1==O) <;> simp[eW,h,J]
 | eptr t e off=>cases t with
  | none=>rfl
  | some t=>cases h:(t.1==d) <;> cases J:(t.1==O) <;> simp[eW,h,J]
 | inn t e off Z=>cases h:(t.1==d) <;> cases J:(t.1==O) <;> simp[eW,h,J]
 | ptr id off=>cases h:(id==d) <;> cases J:(id==O) <;> simp[eW,h,J]
 | fn f caps =>
  obtain⟨V,h1⟩:∃b,eW d (.fn f caps)=bif b then .fn f caps else .any:=⟨_,rfl⟩
  obtain⟨Y,U⟩:∃b,eW O (.fn f caps)=bif b then .fn f caps else .any:=⟨_,rfl⟩
  rw[h1,U];cases V <;> cases Y <;> simp only[f8,f5,h1,U] <;> rfl
 | _=>rfl
theorem Sh1.map_map(f J:Ce->Ce)(s:Sh1):(s.map f).map J=s.map (J ∘ f):=by cases s <;> simp[Sh1.map]
theorem Sh.map_map(f J:Ce->Ce)(s:Sh):(s.map f).map J=s.map (J ∘ f):=by
 cases s with
 | one x=>simp[Sh.map,Sh1.map_map]
 | tup xs =>
  simp only[Sh.map,A7]
  congr 1
  refine B3 fun x _=>?_
  exact Sh1.map_map f J x
theorem XH(σ:St)(d i:Nat):bZ i (σ.wipe d).e (σ.wipe d).r=⟨(bZ i σ.e σ.r).sh.map (eW d),(bZ i σ.e σ.r).p⟩:=
 sg (fun t=>⟨t.sh.map (eW d),t.p⟩) (by rfl) σ.e i σ.r
theorem YQ(σ:St)(d i:Nat):bH i (σ.wipe d).h=(bH i σ.h).map fun q=>(q.1.map (eW d),q.2):=RJ (eW d) σ i
theorem AJ(f:S->Nat)(d J:Nat)(h:d≠J):∀(row:List S) (i:Nat),(nL f d i row).map (eW J)=nL f d i row
 | [],_=>rfl
 | s::r,i=>by
  simp only[nL,u5,AJ f d J h r (i+1)]
  congr 1
  cases s <;> simp[zC,eW,v8.2 h]
def nP(f:S->Nat)(σ:St)(d:Nat)(row:List S):St:=St.put ⟨(σ.wipe d).r,(σ.wipe d).e,rU d (nL f d 0 row,row.map li) (σ.wipe d).h⟩ (some d) (.c (.ptr d 0) D0)
theorem lW(f:S->Nat)(σ:St)(d i:Nat)(row:List S):bZ i (nP f σ d row).e (nP f σ d row).r=if i=d then .c (.ptr d 0) D0 else⟨(bZ i σ.e σ.r).sh.map (eW d),(bZ i σ.e σ.r).p⟩:=by
 show bZ i (σ.wipe d).e ((d,.c (.ptr d 0) D0)::(σ.wipe d).r)=_;rw[bZ];by_cases h:i=d
 ·subst h;simp
 ·rw[i7 h,show (i==d)=false from by simpa using h,f5,XH]
theorem mj(f:S->Nat)(σ:St)(d i:Nat)(row:List S):bH i (nP f σ d row).h=if i=d then some (nL f d 0 row,row.map li) else (bH i σ.h).map fun q=>(q.1.map (eW d),q.2):=by show bH i (rU d _ (σ.wipe d).h)=_;rw[oX,YQ]
theorem So(f V:S->Nat)(σ:St){d J:Nat}(h:d≠J)(row U:List S):adn (nP f (nP V σ J U) d row) (nP V (nP f σ d row) J U):=by
 refine⟨fun i=>?_,fun i=>?_⟩
 ·rw[lW,lW,lW,lW];by_cases h1:i=d
  ·subst h1;rw[j8 rfl,i7 h,j8 rfl];simp only[Sh.map,Sh1.map,eW];rw[show (i==J)=false from by simpa using h];rfl
  ·by_cases O:i=J
   ·subst O;rw[i7 h1,j8 rfl,j8 rfl];simp only[Sh.map,Sh1.map,eW];rw[show (i==d)=false from by simpa using h1];rfl
   ·rw[i7 h1,i7 O,i7 O,i7 h1];simp only[Sh.map_map]
    congr 2
    funext c;exact KZ d J c
 ·rw[mj,mj,mj,mj];by_cases h1:i=d
  ·subst h1;rw[j8 rfl,i7 h,j8 rfl];simp only[B1,AJ _ i J h]
  ·by_cases O:i=J
   ·subst O;rw[i7 h1,j8 rfl,j8 rfl];simp only[B1,AJ _ i d (Ne.symm h)]
   ·rw[i7 h1,i7 O,i7 O,i7 h1];cases bH i σ.h with
    | none=>rfl
    | some q =>
     simp only[B1,A7]
     congr 3
     funext c;exact KZ d J c
theorem Og{d:Nat}{b:Bool}{t:TypeId}{J:St}(h:oa P σ d b t=some (J,true)):∃row,J=nP (Ut P b) σ d row/\∀U,oa P U d b t=some (nP (Ut P b) U d row,true):=by
 unfold oa at h
 split at h
 ·rename_i row O;cases hz:iT P t row with
  | false=>rw[hz] at h;cases h
  | true =>rw[hz] at h;simp only[l8,f5,b7,i8,C6] at h;exact⟨row,h.symm,fun U=>by simp only[oa,O,hz,l8,f5];rfl⟩
 ·cases h
theorem SQ{o:Oper}(h:isA o=true):∃d t,o.op=.alloc t/\o.dst=some d:=by obtain⟨dst,op,O,J,after,guard⟩:=o;cases op <;> cases dst <;> first | (simp[isA] at h;done) | exact⟨_,_,rfl,rfl⟩
theorem MG{call:FuncId->List T->Option (T × Bool)}{ops:Array Oper}{j:Nat}{o:Oper}{d:Nat}{t:TypeId}{l:List (Nat × Bool)}{k:St->R}{key:Option Dom}{out:Nat × b8}(ho:ops[j]?=some o)(U:o.op=.alloc t)(Y:o.dst=some d)(hg:o.guard=none)
  (h:lT P call ops ((j,false)::l) σ k=some (key,some out)):∃J,oa P σ d (rh (noW call) d) t=some (J,true)/\∃V,lT P call ops l J k=some (V,some out):=by
 unfold lT at h;simp only[ho,qF,KR,hg,f5] at h;unfold YS at h
 split at h
 ·rename_i J ok he;obtain⟨Z,O⟩:=dL h;subst Z;refine⟨J,?_,key,O⟩;rw[<- he];simp only[Gz,U,Y]
 ·rw[show isC o=false from by unfold isC;rw[U],y7] at h;cases h
theorem GA{ops:Array Oper}{J:Array Bool}{i:Nat}{oi:Oper}(hi:ops[i]?=some oi)(h:tV ops J i=true) :
  isQ oi=true/\DW ops J=true/\∀j O,ops[j]?=some O->j≠i->J.getD j true=false->(∀e∈O.after,Region.binds .any e=true->e.on≠i)->oi.apart ops O=true/\(calm O=true\/pX ops O=true):=by
 unfold tV at h;simp only[hi,a9] at h;obtain⟨⟨⟨h1,h2⟩,h4⟩,h3⟩:=h;refine⟨h1,h4,fun j O hj V Y U=>⟨M4 hi h2 j O hj V Y U,?_⟩⟩;have:=i6.1 h3 j (m0.2 (t7.1 hj).1);simp only[hj,y9,p6,V,false_or,Y,u4] at this;rcases this with h | h
 ·exact h
 ·obtain⟨e,he,Z⟩:=J3.1 h;simp only[a9,p6] at Z;exact absurd Z.2 (U e he Z.1)
def adb(ops:Array Oper)(B:Nat)(J:Array Bool)(a:Act):Prop:=
 UY ops=true->∀j o d,ops[j]?=some o->J.getD j true=true->isA o=true->o.guard=none->o.dst=some d->∃b off,a.tmps.getD d undef=.pointer (some ⟨b,off,none⟩)/\B<=b
theorem ahd{ops:Array Oper}(h:UY ops=true){i j d:Nat}{oi U:Oper}(hi:ops[i]?=some oi)(J:ops[j]?=some U)(O:i≠j)(V:oi.dst=some d):U.dst≠some d:=by unfold UY at h;have:=i6.1 (i6.1 h i (m0.2 (t7.1 hi).1)) j (m0.2 (t7.1 J).1);simp only[hi,J,y9,p6,O,false_or,V,Option.isNone_some,u4,D1,ne_eq] at this;exact fun e=>this e.symm
theorem PG(a:Act)(dst:Option Nat)(d:Nat)(v:Value)(h:dst≠some d):(a.put dst v).tmps.getD d undef=a.tmps.getD d undef:=by
 cases dst with
 | none=>rfl
 | some e =>
  have J:e≠d:=fun O=>h (by rw[O])
  simp[Act.put,E0,J]
theorem adb.step{ops:Array Oper}{B:Nat}{J:Array Bool}{i:Nat}{o:Oper}{z:Value}(h:adb ops B J a)(hi:ops[i]?=some o)(a0:∀d,o.dst=some d->d<a.tmps.size)(hz:isA o=true->o.guard=none->∃b off,z=.pointer (some ⟨b,off,none⟩)/\B<=b) :
  adb ops B (J.setIfInBounds i true) (a.put o.dst z):=by
 intro V j oj d O Y ha Z U;by_cases e:i=j
 ·subst e;rw[hi] at O;injection O with O;subst O
  obtain⟨b,off,rfl,hb⟩:=hz ha Z;refine⟨b,off,?_,hb⟩;rw[U];exact (UQ a d d _ (a0 d U)).trans (j8 rfl)
 ·rw[getD_set_ne true e] at Y;obtain⟨b,off,h1,h2⟩:=h V j oj d O Y ha Z U;exact⟨b,off,by rw[PG a o.dst d z (ahd V O hi (Ne.symm e) U)];exact h1,h2⟩
theorem mJ{ops:Array Oper}{J:Array Bool}{i:Nat}(h:DW ops (J.setIfInBounds i true)=true):DW ops J=true:=by
 unfold DW at h ⊢;rw[i6] at h ⊢;intro j O;have:=h j O;by_cases e:i=j
 ·subst e;rcases A6 i J.size with hlt | hge
  ·simp only[y9,m6] at this ⊢;rcases this with h | h
   ·simp[hlt] at h
   ·exact .inr h
  ·rwa [Array.setIfInBounds_eq_of_size_le hge] at this
 ·rwa [getD_set_ne true e] at this
theorem wW{ops:Array Oper}{J:Array Bool}{i:Nat}{o:Oper}(hi:ops[i]?=some o)(h:DW ops (J.setIfInBounds i true)=true):isQ o=true:=by
 unfold DW at h;rw[i6] at h;have:=h i (m0.2 (t7.1 hi).1);simp only[hi,y9,m6] at this;rcases this with h | h
 ·rcases A6 i J.size with hlt | hge
  ·simp[hlt] at h
  ·rw[Array.setIfInBounds_eq_of_size_le hge,y3,F1 hge] at h;cases h
 ·exact h
theorem NL{ops:Array Oper}{o:Oper}(h:pX ops o=true):UY ops=true/\∃t d x,o.op=.store t (.tmp d) x/\∃e∈o.after,Region.binds .any e=true/\∃o',ops[e.on]?=some o'/\isA o'=true/\o'.guard=none/\o'.dst=some d:=by
 unfold pX at h
 split at h
 ·rename_i t d x V;simp only[a9] at h;obtain⟨h1,Z⟩:=h;obtain⟨e,Y,O⟩:=J3.1 Z;simp only[a9] at O;obtain⟨O,J⟩:=O
  split at J
  ·rename_i o' U;simp only[a9,p6,Option.isNone_iff_eq_none] at J;exact⟨h1,t,d,x,V,e,Y,O,o',U,J.1.1,J.1.2,J.2⟩
  ·cases J
 ·cases h
theorem WV.grew{ops:Array Oper}{B i:Nat}{J:Array Bool}{o:Oper}{z:Value}(h:WV o a z w w')(hi:ops[i]?=some o)(hm:i∈Region.ready .any ops J)(hM:adb ops B J a)(a1:w.heap.size<=w'.heap.size):ST ops B i w w':=by
 refine⟨a1,?_⟩;intro _ o' U;rw[hi] at U;injection U with U;subst U
 refine⟨h.calm,fun hs=>?_⟩;obtain⟨a2,t,d,x,a0,e,he,hb,o',U,ha,hg,hd⟩:=NL hs;obtain⟨_,o2,V,Z⟩:=mem_ready.1 hm;rw[hi] at V;injection V with V;subst V
 have hl:J.getD e.on true=true:=by
  have Y:=Z e he hb;rw[y3] at Y ⊢;cases hq:J[e.on]? with
  | none=>rfl
  | some b=>rw[hq] at Y;exact Y
 obtain⟨b,off,h1,h2⟩:=hM a2 e.on o' d U hl ha hg hd;exact h.store t d x B a0 fun b' a3 O=>by
  rw[h1] at O;injection O with O
  injection O with O
  injection O with O
  omega
theorem sk{q:Nat × Bool}{o:Option (List (Nat × Bool))}{l:List (Nat × Bool)}(h:VY q o=some l):∃r,o=some r/\l=q::r:=by
 cases o with
 | none=>cases h
 | some r=>simp only[VY,b7] at h;exact⟨r,rfl,h.symm⟩
theorem gK{ops:Array Oper}{J:Array Bool}{i:Nat}(h:i∈Region.ready .any ops J):∃o,ops[i]?=some o:=by obtain⟨_,o,O,_⟩:=mem_ready.1 h;exact⟨o,O⟩
theorem ads{B:Nat}{call:FuncId->List T->Option (T × Bool)}(c4:av P call){ops:Array Oper}(hs:Region.noSelect ops=true){k:St->R}{out:Nat × b8}{n:Nat}{Q:Act->World->Prop}{w0:World}(i0:∀o∈ops.toList,∀d,o.dst=some d->d<n)
  (hk:∀b0 w' g' a' a0,k b0=some (a0,some out)->Rel P w' g' base b0 a'->a'.tmps.size=n->Below base w0 w'->Q a' w') :
  ∀(m:Nat) (J:Array Bool) (l:List (Nat × Bool)) (σ:St) (w:World) (g:G) (a:Act) (key:Option Dom),Gj ops m J=some l->lT P call ops l σ k=some (key,some out)->Rel P w g base σ a->a.tmps.size=n->Below base w0 w->B<=w.heap.size->(DW ops J=true->w.heap.size=B)->adb ops B J a->nF ops J->ET P ops B Q m J a w:=by
 intro m
 induction m using Nat.strongRecOn with
 | _ m g1 =>
 cases m with
 | zero =>
  intro J l σ w g a key hp h hr hn hb a2 b4 hM a5;unfold Gj at hp
  split at hp
  ·rename_i O;simp only[b7] at hp;subst hp;exact⟨O,hk σ w g a key h hr hn hb⟩
  ·cases hp
 | succ m =>
  have ih:=g1 m (I7 m);intro J l σ w g a key hp h hr hn hb a2 b4 hM a5;unfold Gj at hp
  split at hp
  ·rename_i O;simp only[b7] at hp;subst hp;exact⟨fun _=>hk σ w g a key h hr hn hb,fun i hi=>by rw[O] at hi;cases hi⟩
  ·rename_i j r O;have a4:∀o∈ops.toList,∀d,o.dst=some d->d<a.tmps.size:=fun o Z d hd=>by rw[hn];exact i0 o Z d hd
   split at hp
   ·rename_i i b2;obtain⟨l',a1,rfl⟩:=sk hp;have b3:=N3 b2;have Y:i∈Region.ready .any ops J:=by rw[O];exact G0 b2
    obtain⟨o,Z⟩:=gK Y;have b1:∃c3,c3=w.heap.size/\isQ o=true/\∃S,wZ ops J i S/\∀j oj,ops[j]?=some oj->j≠i->J.getD j true=false->S j=false->(∀e∈oj.after,Region.binds .any e=true->e.on≠i)->o.apart ops oj=true/\(calm oj=true\/pX ops oj=true/\c3=B):=by
     have b3:wx ops J i=true\/tV ops J i=true:=by simpa only[y9] using b3
     rcases b3 with he | he
     ·obtain⟨q1,S,qS,q2⟩:=VU Z he;exact⟨_,rfl,q1,S,qS,fun j oj h1 U h3 hs h4=>⟨(q2 j oj h1 U h3 hs h4).1,.inl (q2 j oj h1 U h3 hs h4).2⟩⟩
     ·obtain⟨q1,q0,q2⟩:=GA Z he;refine⟨_,rfl,q1,_,wZ.none,fun j oj h1 U h3 _ h4=>⟨(q2 j oj h1 U h3 h4).1,?_⟩⟩;rcases (q2 j oj h1 U h3 h4).2 with h | h
      ·exact .inl h
      ·exact .inr ⟨h,b4 q0⟩
    obtain⟨c3,k9,i4,S,hS,b1⟩:=b1;have hd:∀d,o.dst=some d->d<a.tmps.size:=a4 o (by simpa using A8 Z);have c9:isA o=true->False:=fun ha=>by obtain⟨dst,op,ty,d5,after,guard⟩:=o;cases op <;> first | (simp[isQ] at i4;done) | (simp[isA] at ha;done)
    unfold lT at h;simp only[Z] at h;rcases ta hr a4 hd h with⟨hw,a6,a0,a8,U⟩ | ⟨hw,a6,a0,a8,U⟩
    ·simp only[f8] at U;unfold TG at U
     split at U
     ·rename_i b0 ok he;obtain⟨V,a7⟩:=dL U;subst V;obtain⟨z,hz,l1⟩:=CE a8 hd he;exact om Z (E9 hs) m J a w a5 hS b1 (by omega) Y (.inl ⟨hw,by rw[k9];exact fun w' h=>hz w' h⟩) (ih _ l' b0 w g _ a0 a1 a7 l1 (by rw[cI];exact hn) hb a2 (fun hq=>b4 (mJ hq)) (hM.step Z hd fun ha _=>(c9 ha).elim) (a5.step Y))
     ·cases U
    ·exact om Z (E9 hs) m J a w a5 hS b1 (by omega) Y (.inr ⟨hw,rfl⟩) (ih _ l' a6 w g _ a0 a1 U a8 (by rw[cI];exact hn) hb a2 (fun hq=>b4 (mJ hq)) (hM.step Z hd fun ha _=>(c9 ha).elim) (a5.step Y))
   ·split at hp
    ·obtain⟨l',a1,rfl⟩:=sk hp;have Y:j∈Region.ready .any ops J:=by rw[O];simp
     obtain⟨o,Z⟩:=gK Y;have hd:∀d,o.dst=some d->d<a.tmps.size:=a4 o (by simpa using A8 Z);refine⟨fun h0=>(by rw[O] at h0;cases h0),fun i hi=>?_⟩;have:i=j:=by rw[O] at hi;simpa using hi
     subst this;unfold lT at h;simp only[Z] at h;unfold wpOp;simp only[Z];rcases ta hr a4 hd h with⟨hw,a6,a0,a8,U⟩ | ⟨hw,a6,a0,a8,U⟩
     ·simp only[f5] at U;unfold YS at U
      split at U
      ·rename_i b0 ok he;obtain⟨V,a7⟩:=dL U;subst V;rw[j8 hw];refine .inl (Kq a8 (aia c4) (fun _ _ _ _ h=>abA h) hd he _ _ fun z w' g' h3 h4 h5=>⟨h5.grew Z Y hM h4.size,ih _ l' b0 w' g' _ a0 a1 a7 h3 (by rw[cI];exact hn) (hb.trans h4) (o8 a2 h4.size) (fun hq=>?_) (hM.step Z hd fun ha _=>⟨_,_,h5.box ha,a2⟩) (a5.step Y)⟩);rw[h5.pure (wW Z hq)];exact b4 (mJ hq)
      ·cases c0:(isC o&&MK ops i) with
       | false=>rw[c0] at U;cases U
       | true =>
        rw[c0,f8] at U;rw[a9] at c0;unfold GU at U
        split at U
        ·rename_i b0 ok he;obtain⟨V,a7⟩:=dL U;subst V;rw[j8 hw];obtain⟨k8,c9⟩:isQ o=false/\isA o=false:=by
          have hc:=c0.1;obtain⟨dst,op,ty,d5,after,guard⟩:=o;cases op with
          | call c =>obtain⟨callee,args,ts⟩:=c;cases callee <;> first | (simp[isC] at hc;done) | exact⟨rfl,rfl⟩
          | _=>simp[isC] at hc
         refine .inl (sy a8 c4 hd he _ _ fun z w' g' h3 h4=>⟨⟨h4.size,fun h=>(by rw[c0.2] at h;cases h)⟩,ih _ l' b0 w' g' _ a0 a1 a7 h3 (by rw[cI];exact hn) (hb.trans h4) ?_ (fun hq=>?_) (hM.step Z hd fun ha _=>by rw[c9] at ha;cases ha) (a5.step Y)⟩)
         ·exact o8 a2 h4.size
         ·have:=wW Z hq;rw[k8] at this;cases this
        ·cases U
     ·rw[i7 (by simp[hw])];refine⟨ST.refl,ih _ l' a6 w g _ a0 a1 U a8 (by rw[cI];exact hn) hb a2 (fun hq=>b4 (mJ hq)) (hM.step Z hd fun ha hg=>?_) (a5.step Y)⟩;unfold Region.wanted at hw;rw[hg] at hw;cases hw
    ·rename_i kk l5;cases c1:LT ops J j kk with
     | false=>rw[c1] at hp;cases hp
     | true =>
      rw[c1,f8] at hp;obtain⟨l',a1,rfl⟩:=sk hp;have d3:j∈Region.ready .any ops J:=by rw[O];simp
      have k7:kk∈Region.ready .any ops J:=by rw[O];simp
      obtain⟨oj,a3⟩:=gK d3;obtain⟨ok,V⟩:=gK k7;unfold LT at c1;simp only[a3,V,a9,p6,D1,ne_eq,Option.isNone_iff_eq_none] at c1;obtain⟨⟨⟨⟨⟨⟨c7,e6⟩,d1⟩,g3⟩,f0⟩,e7⟩,f1⟩:=c1;obtain⟨dj,tj,c2,c8⟩:=SQ c7;obtain⟨dk,tk,e0,d2⟩:=SQ e6;have h8:dj≠dk:=fun e=>f0 (by rw[c8,d2,e])
      have b6:∀d,oj.dst=some d->d<a.tmps.size:=a4 oj (by simpa using A8 a3);have d4:∀d,ok.dst=some d->d<a.tmps.size:=a4 ok (by simpa using A8 V)
      -- the Gj goes on with the other one
      cases m with
      | zero=>unfold Gj at a1;rw[e7] at a1;cases a1
      | succ m =>
       have c6:=a1;unfold Gj at c6;rw[e7] at c6;have f3:kk≠j:=by
        intro e;subst e;rw[a3] at V;injection V with V
        subst V;exact f0 rfl
       have i1:isQ oj=false:=by obtain⟨dst,op,ty,d5,after,guard⟩:=oj;cases op <;> first | (simp[isA] at c7;done) | rfl
       have b5:∀ {i:Nat} {o:Oper} {w w':World},ops[i]?=some o->isA o=true->Below w.heap.size w w'->ST ops B i w w':=fun {i o w w'} Z ha hbb=>⟨hbb.size,fun _ o' c5=>by
        rw[Z] at c5;injection c5 with c5;subst c5
        refine⟨fun _=>hbb,fun k6=>?_⟩;obtain⟨_,t,d,x,l0,_⟩:=NL k6;obtain⟨d',t',e9,_⟩:=SQ ha;rw[l0] at e9;cases e9⟩
       have h7:isQ ok=false:=by obtain⟨dst,op,ty,d5,after,guard⟩:=ok;cases op <;> first | (simp[isA] at e6;done) | rfl
       have b2:List.find? (fun i=>wx ops (J.setIfInBounds j true) i||tV ops (J.setIfInBounds j true) i) [kk]=none:=by simp[List.find?_cons,wx,tV,NN,V,h7]
       simp only[b2] at c6;obtain⟨l2,k3,rfl⟩:=sk c6;obtain⟨l3,e1,k1,h1⟩:=MG a3 c2 c8 d1 h;obtain⟨l4,e2,k0,U⟩:=MG V e0 d2 g3 h1;obtain⟨i2,rfl,aj⟩:=Og e1;obtain⟨h9,rfl,ak⟩:=Og e2;have k5:Region.wanted oj (yielded ops a.tmps)=true:=by unfold Region.wanted;rw[d1]
       have k4:Region.wanted ok (yielded ops a.tmps)=true:=by unfold Region.wanted;rw[g3]
       refine⟨fun h0=>(by rw[O] at h0;cases h0),fun i hi=>?_⟩;have hi:i=j\/i=kk:=by rw[O] at hi;simpa using hi
       rcases hi with rfl | rfl
       ·unfold wpOp;simp only[a3];rw[j8 k5];refine .inl ?_;obtain⟨z,w',g',q1,q2,q3,q4,q5⟩:=mY hr c2 c8 b6 e1;unfold Oper.wp;rw[q1];exact⟨b5 a3 c7 q4,ih _ _ _ w' g' _ k1 a1 h1 q2 (by rw[cI];exact hn) (hb.trans q3) (o8 a2 q3.size) (fun hq=>absurd (wW a3 hq) (by rw[i1];exact J4)) (hM.step a3 b6 fun _ _=>⟨_,_,q5,a2⟩) (a5.step d3)⟩
       ·unfold wpOp;simp only[V];rw[j8 k4];refine .inl ?_;obtain⟨z,w',g',q1,q2,q3,q4,q5⟩:=mY hr e0 d2 d4 (ak σ);unfold Oper.wp;rw[q1];refine⟨b5 V e6 q4,fun h0=>(by rw[f1] at h0;cases h0),fun i' f2=>?_⟩;have:i'=j:=by rw[f1] at f2;simpa using f2
        subst this;have i3:Region.wanted oj (yielded ops (a.put ok.dst z).tmps)=true:=by unfold Region.wanted;rw[d1]
        unfold wpOp;simp only[a3];rw[j8 i3];refine .inl ?_;obtain⟨z2,w2,g2,r1,r2,r3,r4,r5⟩:=mY q2 c2 c8 (fun d hd=>by rw[cI];exact b6 d hd) (aj _);unfold Oper.wp;rw[r1];have k2:=hM.step V d4 (z:=z) fun _ _=>⟨_,_,q5,a2⟩
        have h6:=k2.step a3 (fun d hd=>by rw[cI];exact b6 d hd) (z:=z2) fun _ _=>⟨_,_,r5,o8 a2 q3.size⟩
        refine⟨b5 a3 c7 r4,?_⟩;rw[K6 _ _ f3];exact g1 m (by omega) _ l2 _ w2 g2 _ k0 k3 U (r2.same (So _ _ σ h8 i2 h9)) (by rw[cI,cI];exact hn) ((hb.trans q3).trans r3) (o8 (o8 a2 q3.size) r3.size) (fun hq=>absurd (wW V hq) (by rw[h7];exact J4)) (by rw[K6 _ _ f3] at h6;exact h6) ((a5.step d3).step (by rw[e7];simp))
    ·cases hp
theorem ala{o:Oper}{a:Act}{w:World}{K Z:Act->World->Prop}{Q Y:Exit->Act->World->Prop}(V:∀e a w,Q e a w->Y e a w)(U:∀a w,K a w->Z a w)(J:o.wp P a w K Q):o.wp P a w Z Y:=by
 unfold Oper.wp at *;generalize (execOp a.eval o).run P w=r at *;cases r with
 | ok n w' =>
  cases n <;> simp only[Oper.upon] at J ⊢
  case value=>exact U _ _ J
  case skip=>exact U _ _ J
  case defer=>exact U _ _ J
  case enter =>
   refine Calls.mono J fun e a0 O=>?_
   cases e with
   | returned v=>exact U _ _ O
   | panicked c=>exact V _ _ _ O
   | outgrown=>obtain⟨x,y,h⟩:=O;exact⟨x,y,V _ _ _ h⟩
  case row=>exact Rows.mono J fun _ _ O=>U _ _ O
 | halt x w' =>cases x <;> simp only[Oper.upon] at J ⊢ <;> first | exact J.elim | exact V _ _ _ J
theorem afb{ops:Array Oper}{i:Nat}{a:Act}{w:World}{K Y:Act->World->Prop}{Q U:Exit->Act->World->Prop}(V:∀e a w,Q e a w->U e a w)(O:∀a w,K a w->Y a w)(J:wpOp P ops Q i K a w):wpOp P ops U i Y a w:=by
 unfold wpOp at *
 split
 ·exact O _ _ (by simpa [*] using J)
 ·rename_i o Z;simp only[Z] at J
  split
  ·rename_i hw;simp only[hw,if_true] at J;rcases J with J | ⟨x,y,z,hl⟩
   ·exact .inl (ala V O J)
   ·exact .inr ⟨x,y,z,V _ _ _ hl⟩
  ·rename_i hw;simp only[hw] at J;exact O _ _ J
theorem Fa{ops:Array Oper}{Q U:Exit->Act->World->Prop}(O:∀e a w,Q e a w->U e a w):∀(n:Nat) (J:Array Bool) (a:Act) (w:World),wpAny P .any ops Q n J a w->wpAny P .any ops U n J a w
 | 0,_,_,_,h=>⟨h.1,O _ _ _ h.2⟩
 | n+1,_,_,_,h=>⟨fun Z=>O _ _ _ (h.1 Z),fun i hi=>afb O (fun Y w' V=>Fa O n _ Y w' V) (h.2 i hi)⟩
def QN(Q:Act->World->Prop):Exit->Act->World->Prop
 | .normal,a,w=>Q a w
 | _,_,_=>False
theorem Yr{call:FuncId->List T->Option (T × Bool)}(b5:av P call){ops:Array Oper}(hs:Region.noSelect ops=true)(c0:Eb ops=true){k:St->R}{out:Nat × b8}{n:Nat}{Q:Act->World->Prop}{w0:World}(c1:∀o∈ops.toList,∀d,o.dst=some d->d<n)
  (hk:∀a6 w' g' a' U,k a6=some (U,some out)->Rel P w' g' base a6 a'->a'.tmps.size=n->Below base w0 w'->Q a' w') :
  ∀(m:Nat) (J:Array Bool) (l:List (Nat × Bool)) (σ:St) (w:World) (g:G) (a:Act) (key:Option Dom),Gj ops m J=some l->Bz P call ops l σ k=some (key,some out)->Rel P w g base σ a->a.tmps.size=n->Below base w0 w->wpAny P .any ops (QN Q) m J a w:=by
 intro m
 induction m with
 | zero =>
  intro J l σ w g a key Y h hr hn hb;unfold Gj at Y
  split at Y
  ·rename_i O;simp only[b7] at Y;subst Y;exact⟨O,hk σ w g a key h hr hn hb⟩
  ·cases Y
 | succ m ih =>
  intro J l σ w g a key Y h hr hn hb;unfold Gj at Y
  split at Y
  ·rename_i O;simp only[b7] at Y;subst Y;exact⟨fun _=>hk σ w g a key h hr hn hb,fun i hi=>by rw[O] at hi;cases hi⟩
  ·rename_i j r O;have a2:∀o∈ops.toList,∀d,o.dst=some d->d<a.tmps.size:=fun o Z d hd=>by rw[hn];exact c1 o Z d hd
   have b2:∀ {i:Nat} {o:Oper},ops[i]?=some o->sf o=true\/isC o=true:=fun {i o} Z=>by have:=i6.1 c0 o (by simpa using A8 Z);simpa using this
   split at Y
   ·rename_i i b1;obtain⟨l',a8,rfl⟩:=sk Y;have a4:=N3 b1;have a5:i∈Region.ready .any ops J:=by rw[O];exact G0 b1
    obtain⟨o,Z⟩:=gK a5;have a1:isQ o=true/\∀j oj,ops[j]?=some oj->j≠i->J.getD j true=false->(∀e∈oj.after,Region.binds .any e=true->e.on≠i)->o.apart ops oj=true:=by
     have a4:wx ops J i=true\/tV ops J i=true:=by simpa only[y9] using a4
     rcases a4 with he | he
     ·exact adw c0 Z he
     ·obtain⟨q1,q0,q2⟩:=GA Z he;exact⟨q1,fun j oj h1 V h3 h4=>(q2 j oj h1 V h3 h4).1⟩
    obtain⟨c2,a1⟩:=a1;have c4:sf o=true:=by
     rcases b2 Z with h' | h'
     ·exact h'
     ·exfalso
      obtain⟨dst,op,ty,c8,after,guard⟩:=o;cases op with
      | call c =>obtain⟨callee,args,ts⟩:=c;cases callee <;> first | (simp[isC] at h';done) | (simp[isQ] at c2;done)
      | _=>simp[isC] at h'
    have hd:∀d,o.dst=some d->d<a.tmps.size:=a2 o (by simpa using A8 Z);unfold Bz at h;simp only[Z] at h;rcases ta hr a2 hd h with⟨hw,a0,U,a3,V⟩ | ⟨hw,a0,U,a3,V⟩
    ·simp only[f8] at V;unfold TG at V
     split at V
     ·rename_i a6 ok he;obtain⟨b0,a7⟩:=dL V;subst b0;obtain⟨z,hz,c6⟩:=CE a3 hd he;exact wpAny_first Z (E9 hs) (fun c a w h=>h) m J a w a1 a5 (.inl ⟨hw,fun w'=>hz w' (.inr c4)⟩) (ih _ l' a6 w g _ U a8 a7 c6 (by rw[cI];exact hn) hb)
     ·cases V
    ·exact wpAny_first Z (E9 hs) (fun c a w h=>h) m J a w a1 a5 (.inr ⟨hw,rfl⟩) (ih _ l' a0 w g _ U a8 V a3 (by rw[cI];exact hn) hb)
   ·split at Y
    ·obtain⟨l',a8,rfl⟩:=sk Y;have a5:j∈Region.ready .any ops J:=by rw[O];simp
     obtain⟨o,Z⟩:=gK a5;have hd:∀d,o.dst=some d->d<a.tmps.size:=a2 o (by simpa using A8 Z);refine⟨fun h0=>(by rw[O] at h0;cases h0),fun i hi=>?_⟩;have:i=j:=by rw[O] at hi;simpa using hi
     subst this;unfold Bz at h;simp only[Z] at h;unfold wpOp;simp only[Z];rcases ta hr a2 hd h with⟨hw,a0,U,a3,V⟩ | ⟨hw,a0,U,a3,V⟩
     ·simp only[f5] at V;unfold GU at V
      split at V
      ·rename_i a6 ok he;obtain⟨b0,a7⟩:=dL V;subst b0;rw[j8 hw];exact .inl (sy a3 b5 hd he _ _ fun z w' g' h3 h4=>ih _ l' a6 w' g' _ U a8 a7 h3 (by rw[cI];exact hn) (hb.trans h4))
      ·cases V
     ·rw[i7 (by simp[hw])];exact ih _ l' a0 w g _ U a8 V a3 (by rw[cI];exact hn) hb
    ·rename_i kk c9;cases b3:LT ops J j kk with
     | false=>rw[b3] at Y;cases Y
     | true =>
      exfalso
      have c5:j∈Region.ready .any ops J:=by rw[O];simp
      obtain⟨oj,b6⟩:=gK c5;have c7:kk∈Region.ready .any ops J:=by rw[O];simp
      obtain⟨ok,b0⟩:=gK c7;unfold LT at b3;simp only[b6,b0,a9] at b3;obtain⟨⟨⟨⟨⟨⟨c3,_⟩,_⟩,_⟩,_⟩,_⟩,_⟩:=b3;obtain⟨dj,tj,b4,_⟩:=SQ c3;have:=b2 b6;obtain⟨dst,op,ty,c8,after,guard⟩:=oj;simp only at b4;subst b4;simp[sf,isC] at this
    ·cases Y
theorem AW{q:Nat × Bool}{o:Option (List (List (Nat × Bool)))}{J:List (List (Nat × Bool))}(h:tg q o=some J):∃l r,o=some (l::r)/\J=(l::r).map (q :: ·):=by
 unfold tg at h
 split at h
 ·cases h
 ·rename_i l r;injection h with h;exact⟨l,r,rfl,h.symm⟩
 ·cases h
theorem acG{a b:Option (List (List (Nat × Bool)))}{J:List (List (Nat × Bool))}(h:NU a b=some J):∃x y,a=some x/\b=some y/\J=x++y:=by
 unfold NU at h
 split at h
 ·rename_i x y;injection h with h;exact⟨x,y,rfl,rfl,h.symm⟩
 ·cases h
theorem Uf{f:Nat->Option (List (List (Nat × Bool)))}:∀ {O:List Nat} {J:List (List (Nat × Bool))},O.foldr (fun i V=>NU (tg (i,false) (f i)) V) (some [])=some J->∀i∈O,∃l r,f i=some (l::r)/\∀x∈(l::r),((i,false)::x)∈J
 | [],J,h,i,hi=>by cases hi
 | j::O,J,h,i,hi=>by
  obtain⟨x,y,h1,Z,rfl⟩:=acG h;obtain⟨l,r,h3,rfl⟩:=AW h1;rcases A2.1 hi with rfl | hi
  ·exact⟨l,r,h3,fun x U=>m7.2 (.inl (y4.2 ⟨x,U,rfl⟩))⟩
  ·obtain⟨l',Y,h4,h5⟩:=Uf Z i hi;exact⟨l',Y,h4,fun x U=>m7.2 (.inr (h5 x U))⟩
theorem gR{call:FuncId->List T->Option (T × Bool)}{ops:Array Oper}{i:Nat}{q:Bool}{l:List (Nat × Bool)}{o:Oper}(V:ops[i]?=some o){O:St}(h:evS P call ops ((i,q)::l) σ=some (O,true)) :
  (KR ops σ o=.yes/\∃J,(bif q then rp P σ o else Gz P call σ o)=some (J,true)/\evS P call ops l J=some (O,true))\/(KR ops σ o=.no/\evS P call ops l (σ.put o.dst .none_)=some (O,true)):=by
 unfold evS at h;simp only[V] at h
 split at h
 ·rename_i hw
  split at h
  ·rename_i J ok Y
   split at h
   ·rename_i Z a0 U;simp only[b7,i8,a9] at h;obtain⟨rfl,rfl,rfl⟩:=h;exact .inl ⟨hw,J,Y,U⟩
   ·cases h
  ·cases h
 ·rename_i hw;exact .inr ⟨hw,h⟩
 ·cases h
theorem adt{call:FuncId->List T->Option (T × Bool)}(b3:av P call)(c3:∀f args r ok,call f args=some (r,ok)->r.sh.isW=false){ops:Array Oper}(hs:Region.noSelect ops=true){F:St->Prop}{n B:Nat}{Q:Act->World->Prop}{w0:World}(b5:∀o∈ops.toList,∀d,o.dst=some d->d<n)
  (hk:∀a8 w' g' a',F a8->Rel P w' g' base a8 a'->a'.tmps.size=n->Below base w0 w'->Q a' w') :
  ∀(m:Nat) (J:Array Bool) (ls:List (List (Nat × Bool))) (σ:St) (w:World) (g:G) (a:Act),Fu ops m J=some ls->(∀l∈ls,∃Z,evS P call ops l σ=some (Z,true)/\F Z)->Rel P w g base σ a->a.tmps.size=n->Below base w0 w->B<=w.heap.size->(DW ops J=true->w.heap.size=B)->adb ops B J a->nF ops J->ET P ops B Q m J a w:=by
 intro m
 induction m with
 | zero =>
  intro J ls σ w g a hp h hr hn hb a7 a6 hM a5;unfold Fu at hp
  split at hp
  ·rename_i O;injection hp with hp
   subst hp;obtain⟨Z,h1,h2⟩:=h [] (by simp);injection h1 with h1
   injection h1 with h1 _
   subst h1;exact⟨O,hk _ w g a h2 hr hn hb⟩
  ·cases hp
 | succ m ih =>
  intro J ls σ w g a hp h hr hn hb a7 a6 hM a5;have a2:∀o∈ops.toList,∀d,o.dst=some d->d<a.tmps.size:=fun o U d hd=>by rw[hn];exact b5 o U d hd
  unfold Fu at hp
  split at hp
  ·rename_i O;injection hp with hp
   subst hp;obtain⟨Z,h1,h2⟩:=h [] (by simp);injection h1 with h1
   injection h1 with h1 _
   subst h1;exact⟨fun _=>hk _ w g a h2 hr hn hb,fun i hi=>by rw[O] at hi;cases hi⟩
  ·rename_i j r O
   split at hp
   ·rename_i i b2;obtain⟨l0,r0,b0,rfl⟩:=AW hp;have a3:=N3 b2;have a4:i∈Region.ready .any ops J:=by rw[O];exact G0 b2
    obtain⟨o,U⟩:=gK a4;have a1:∃b1,b1=w.heap.size/\isQ o=true/\∃S,wZ ops J i S/\∀j oj,ops[j]?=some oj->j≠i->J.getD j true=false->S j=false->(∀e∈oj.after,Region.binds .any e=true->e.on≠i)->o.apart ops oj=true/\(calm oj=true\/pX ops oj=true/\b1=B):=by
     have a3:wx ops J i=true\/tV ops J i=true:=by simpa only[y9] using a3
     rcases a3 with he | he
     ·obtain⟨q1,S,qS,q2⟩:=VU U he;exact⟨_,rfl,q1,S,qS,fun j oj h1 h2 h3 hs h4=>⟨(q2 j oj h1 h2 h3 hs h4).1,.inl (q2 j oj h1 h2 h3 hs h4).2⟩⟩
     ·obtain⟨q1,q0,q2⟩:=GA U he;refine⟨_,rfl,q1,_,wZ.none,fun j oj h1 h2 h3 _ h4=>⟨(q2 j oj h1 h2 h3 h4).1,?_⟩⟩;rcases (q2 j oj h1 h2 h3 h4).2 with h | h
      ·exact .inl h
      ·exact .inr ⟨h,a6 q0⟩
    obtain⟨b1,c4,c1,S,hS,a1⟩:=a1;have hd:∀d,o.dst=some d->d<a.tmps.size:=a2 o (by simpa using A8 U);have b4:isA o=true->False:=fun ha=>by obtain⟨dst,op,ty,c7,after,guard⟩:=o;cases op <;> first | (simp[isQ] at c1;done) | (simp[isA] at ha;done)
    have hh:∀l∈(l0::r0),∃Z,evS P call ops ((i,true)::l) σ=some (Z,true)/\F Z:=fun l hl=>h _ (y4.2 ⟨l,hl,rfl⟩)
    have hw:=yq hr a2 (o:=o);obtain⟨c6,e0,_⟩:=hh l0 (by simp);rcases gR U e0 with⟨Y,a8,he,_⟩ | ⟨Y,_⟩
    ·rw[Y] at hw;rw[f8] at he;obtain⟨z,hz,c5⟩:=CE hr hd he;refine om U (E9 hs) m J a w a5 hS a1 (by omega) a4 (.inl ⟨hw,by rw[c4];exact fun w' h=>hz w' h⟩) (ih _ _ a8 w g _ b0 (fun l hl=>?_) c5 (by rw[cI];exact hn) hb a7 (fun Y=>a6 (mJ Y)) (hM.step U hd fun ha _=>(b4 ha).elim) (a5.step a4));obtain⟨Z,e,hF⟩:=hh l hl;rcases gR U e with⟨_,b6,V,e'⟩ | ⟨a0,_⟩
     ·rw[f8,he] at V;injection V with V;injection V with V _
      subst V;exact⟨Z,e',hF⟩
     ·rw[Y] at a0;cases a0
    ·rw[Y] at hw;refine om U (E9 hs) m J a w a5 hS a1 (by omega) a4 (.inr ⟨hw,rfl⟩) (ih _ _ _ w g _ b0 (fun l hl=>?_) (hr.put hd (t:=.none_) ⟨#[],rfl,rfl,fun j x h=>by simp at h⟩) (by rw[cI];exact hn) hb a7 (fun Y=>a6 (mJ Y)) (hM.step U hd fun ha _=>(b4 ha).elim) (a5.step a4));obtain⟨Z,e,hF⟩:=hh l hl;rcases gR U e with⟨a0,_⟩ | ⟨_,e'⟩
     ·rw[Y] at a0;cases a0
     ·exact⟨Z,e',hF⟩
   ·refine⟨fun h0=>(by rw[O] at h0;cases h0),fun i hi=>?_⟩;have c2:i∈j::r:=by rw[O] at hi;exact hi
    obtain⟨l0,r0,b0,c0⟩:=Uf hp i c2;obtain⟨o,U⟩:=gK hi;have hd:∀d,o.dst=some d->d<a.tmps.size:=a2 o (by simpa using A8 U);have hh:∀l∈(l0::r0),∃Z,evS P call ops ((i,false)::l) σ=some (Z,true)/\F Z:=fun l hl=>h _ (c0 l hl)
    have hw:=yq hr a2 (o:=o);obtain⟨c6,e0,_⟩:=hh l0 (by simp);unfold wpOp;simp only[U];rcases gR U e0 with⟨Y,a8,he,_⟩ | ⟨Y,_⟩
    ·rw[Y] at hw;rw[f5] at he;rw[j8 hw];refine .inl (Kq hr b3 c3 hd he _ _ fun z w' g' h3 h4 h5=>⟨h5.grew U hi hM h4.size,ih _ _ a8 w' g' _ b0 (fun l hl=>?_) h3 (by rw[cI];exact hn) (hb.trans h4) (o8 a7 h4.size) (fun Y=>?_) (hM.step U hd fun ha _=>⟨_,_,h5.box ha,a7⟩) (a5.step hi)⟩)
     ·obtain⟨Z,e,hF⟩:=hh l hl;rcases gR U e with⟨_,b6,V,e'⟩ | ⟨a0,_⟩
      ·rw[f5,he] at V;injection V with V;injection V with V _
       subst V;exact⟨Z,e',hF⟩
      ·rw[Y] at a0;cases a0
     ·rw[h5.pure (wW U Y)];exact a6 (mJ Y)
    ·rw[Y] at hw;rw[i7 (by simp[hw])];refine⟨ST.refl,ih _ _ _ w g _ b0 (fun l hl=>?_) (hr.put hd (t:=.none_) ⟨#[],rfl,rfl,fun j x h=>by simp at h⟩) (by rw[cI];exact hn) hb a7 (fun Y=>a6 (mJ Y)) (hM.step U hd fun ha hg=>?_) (a5.step hi)⟩
     ·obtain⟨Z,e,hF⟩:=hh l hl;rcases gR U e with⟨a0,_⟩ | ⟨_,e'⟩
      ·rw[Y] at a0;cases a0
      ·exact⟨Z,e',hF⟩
     ·unfold Region.wanted at hw;rw[hg] at hw;cases hw
theorem Ir:∀ {e:Env} {i:Nat},i ∉ e.map (·.1)->cY i e=.any
 | [],_,_=>rfl
 | (j,v)::e,i,h=>by simp only[u5,A2,not_or] at h;rw[cY,show (i==j)=false from by simpa using h.1,f5];exact Ir h.2
theorem ua:∀ {r e:Env} {i:Nat},i ∉ r.map (·.1)->i ∉ e.map (·.1)->bZ i e r=.any
 | [],_,_,_,h=>Ir h
 | (j,v)::r,e,i,h,h'=>by simp only[u5,A2,not_or] at h;rw[bZ,show (i==j)=false from by simpa using h.1,f5];exact ua h.2 h'
theorem uI:∀ {h:sH} {i:Nat},i ∉ h.map (·.1)->bH i h=none
 | [],_,_=>rfl
 | (j,v)::e,i,h=>by simp only[u5,A2,not_or] at h;rw[bH,show (i==j)=false from by simpa using h.1,f5];exact uI h.2
theorem FO{O U:Type}{f J:O->U}:∀ {l:List O},l.map f=l.map J->∀x∈l,f x=J x
 | [],_,x,hx=>by cases hx
 | y::l,h,x,hx=>by
  simp only[u5,N4] at h;rcases A2.1 hx with rfl | hx
  ·exact h.1
  ·exact FO h.2 x hx
theorem ajs{σ J:St}(h1:Sv σ J=true)(O:ec (aiT σ J) (Ug σ J)=true):adn J σ:=by
 have O:aiT σ J=Ug σ J:=by unfold ec at O;exact @j9 _ (Classical.propDecidable _) O
 unfold Sv at h1;simp only[a9,i6] at h1;obtain⟨s1,s2⟩:=h1;unfold aiT Ug at O;have U:∀ {Y β:Type} (f V:Y->β) (l:List Y),(l.map f).length=(l.map V).length:=fun f V l=>by simp
 obtain⟨p1,p2⟩:=List.append_inj O (U _ _ _);refine⟨fun i=>?_,fun i=>?_⟩
 ·by_cases hi:i∈Ep σ J
  ·have e1:=s1 i hi;have e1:(bZ i σ.e σ.r).sh=(bZ i J.e J.r).sh:=by simpa using e1
   have e2:=FO p1 i hi;generalize bZ i σ.e σ.r=u at *;generalize bZ i J.e J.r=v at *;cases u;cases v;simp_all
  ·simp only[Ep,List.mem_eraseDups,m7,not_or] at hi;rw[ua hi.1.1 hi.1.2,ua hi.2.1 hi.2.2]
 ·by_cases hi:i∈wJ σ J
  ·have e1:=s2 i hi;have e1:(bH i σ.h).map (·.1)=(bH i J.h).map (·.1):=by simpa using e1
   have e2:=FO p2 i hi;cases Z:bH i σ.h with
   | none =>
    rw[Z] at e1;cases hv:bH i J.h with
    | none=>rfl
    | some v=>rw[hv] at e1;cases e1
   | some u =>
    rw[Z] at e1 e2;cases hv:bH i J.h with
    | none=>rw[hv] at e1;cases e1
    | some v =>
     rw[hv] at e1 e2;simp only[B1,b7,w3] at e1 e2;obtain⟨u1,u2⟩:=u;obtain⟨v1,v2⟩:=v
     simp_all
  ·simp only[wJ,List.mem_eraseDups,m7,not_or] at hi;rw[uI hi.1,uI hi.2]
theorem Fp{call:FuncId->List T->Option (T × Bool)}{ops:Array Oper}{U:St}{r:R}{out:Nat × b8}:∀ {Z:List (List (Nat × Bool))} {key:Option Dom},Sk P call ops σ U Z r=some (key,some out) ->
  r=some (key,some out)/\∀l∈Z,∃O,evS P call ops l σ=some (O,true)/\adn O U
 | [],key,h=>⟨h,fun l J=>by cases J⟩
 | l::Z,key,h=>by
  unfold Sk at h
  split at h
  ·rename_i O ok he;cases hsh:Sv U O with
   | false=>rw[hsh] at h;cases h
   | true =>
    rw[hsh,f8] at h;obtain⟨Y,V⟩:=dL h;simp only[a9] at Y;obtain⟨rfl,hp⟩:=Y;obtain⟨h1,h2⟩:=Fp V;exact⟨h1,fun l' J=>by
     rcases A2.1 J with rfl | J
     ·exact⟨O,he,ajs hsh hp⟩
     ·exact h2 l' J⟩
  ·cases h
theorem yg(O:Rel P w g base σ a):Rel P { w with drawn:=w.drawn+1 } g base σ a:=by
 have hE:Ext (some 0) g g w { w with drawn:=w.drawn+1 }:=⟨g8 _,fun _ _=>rfl,fun _ _=>⟨rfl,rfl,rfl,rfl⟩,fun _ _=>rfl,fun _ _=>rfl,fun _ _=>rfl,fun _ _=>⟨rfl,rfl⟩,rfl,fun _ _ _ h=>.inr h⟩;have J:Ext none g g w { w with drawn:=w.drawn+1 }:=⟨g8 _,fun _ _=>rfl,fun _ _=>⟨rfl,rfl,rfl,rfl⟩,fun _ _=>rfl,fun _ _=>rfl,fun _ _=>rfl,fun _ _=>⟨rfl,rfl⟩,rfl,fun _ _ _ h=>.inr h⟩;have hk:iu P base g g w { w with drawn:=w.drawn+1 } (fun c=>c):=by
  intro c x v hv;cases c with
  | any=>trivial
  | d s=>exact J.vd hv
  | kb b=>exact hv
  | own t xm e =>obtain⟨row,a1,a0⟩:=hv;exact⟨row,a1,J.own (by intro e;cases e) a0⟩
  | ptr id off=>exact hv
  | eptr tk e off=>cases tk with
   | none =>obtain⟨row,b,o,h1,V,Y,h4⟩:=hv;exact⟨row,b,o,h1,V,Y,fun j s hs=>by obtain⟨u,k1,k2,k3⟩:=h4 j s hs;exact⟨u,k1,k2,J.vd k3⟩⟩
   | some t =>obtain⟨row,h1,V,Y,u,h4⟩:=hv;exact⟨row,h1,V,Y,u,J.own (by intro e;cases e) h4⟩
  | inn t e off ei=>exact mZ hv rfl (fun o _ ho=>ho) (fun hu=>J.own (by intro e;cases e) hu)
  | cptr cells off=>exact J.cptr O.base_le hv
  | fn f caps =>
   obtain⟨Z,h1,V,Y⟩:=hv;refine⟨Z,h1,V,fun j c hc=>?_⟩;obtain⟨u,hu,U⟩:=Y j c hc;refine⟨u,hu,?_⟩;cases c with
   | d s=>exact J.vd U
   | ptr id off=>exact U
   | cptr cells off=>exact J.cptr O.base_le U
 refine⟨fun i=>hk.vt' (O.env i),fun id cs ds h=>?_,O.fresh,O.base_le,O.defers,O.low,O.mine⟩;obtain⟨k1,k2,k3,kl,Z,E,k4,k5⟩:=O.box id cs ds h;have:=hk.vcs k5;rw[List.map_id'] at this;exact⟨k1,k2,k3,kl,Z,E,k4,this⟩
theorem XV{call:FuncId->List T->Option (T × Bool)}(a7:av P call){ops:Array Oper}(hs:Region.noSelect ops=true){F:St->Prop}{n:Nat}{Q:Act->World->Prop}{w0:World}(a8:∀o∈ops.toList,∀d,o.dst=some d->d<n)
  (hk:∀a2 w' g' a',F a2->Rel P w' g' base a2 a'->a'.tmps.size=n->Below base w0 w'->Q a' w') :
  ∀(m:Nat) (J:Array Bool) (ls:List (List (Nat × Bool))) (σ:St) (w:World) (g:G) (a:Act),xX ops m J=some ls->(∀l∈ls,∃V,evS P call ops l σ=some (V,true)/\F V)->Rel P w g base σ a->a.tmps.size=n->Below base w0 w->wpAny P .any ops (QN Q) m J a w:=by
 intro m
 induction m with
 | zero =>
  intro J ls σ w g a hp h hr hn hb;unfold xX at hp
  split at hp
  ·rename_i O;injection hp with hp
   subst hp;obtain⟨V,h1,h2⟩:=h [] (by simp);injection h1 with h1
   injection h1 with h1 _
   subst h1;exact⟨O,hk _ w g a h2 hr hn hb⟩
  ·cases hp
 | succ m ih =>
  intro J ls σ w g a hp h hr hn hb;have a0:∀o∈ops.toList,∀d,o.dst=some d->d<a.tmps.size:=fun o Z d hd=>by rw[hn];exact a8 o Z d hd
  unfold xX at hp
  split at hp
  ·rename_i O;injection hp with hp
   subst hp;obtain⟨V,h1,h2⟩:=h [] (by simp);injection h1 with h1
   injection h1 with h1 _
   subst h1;exact⟨fun _=>hk _ w g a h2 hr hn hb,fun i hi=>by rw[O] at hi;cases hi⟩
  ·rename_i j r O
   split at hp
   ·rename_i i a6;obtain⟨l0,r0,a3,rfl⟩:=AW hp;have a1:=N3 a6;have a4:i∈Region.ready .any ops J:=by rw[O];exact G0 a6
    obtain⟨o,Z⟩:=gK a4;unfold ahc at a1;simp only[Z,a9] at a1;obtain⟨⟨c0,b3⟩,b4⟩:=a1;have a5:∀j oj,ops[j]?=some oj->j≠i->J.getD j true=false->(∀e∈oj.after,Region.binds .any e=true->e.on≠i)->o.apart ops oj=true:=fun j oj h1 h2 h3 h4=>M4 Z b4 j oj h1 h2 h3 h4
    have hd:∀d,o.dst=some d->d<a.tmps.size:=a0 o (by simpa using A8 Z);have hh:∀l∈(l0::r0),∃V,evS P call ops ((i,true)::l) σ=some (V,true)/\F V:=fun l hl=>h _ (y4.2 ⟨l,hl,rfl⟩)
    have hw:=yq hr a0 (o:=o);obtain⟨b6,e0,_⟩:=hh l0 (by simp);rcases gR Z e0 with⟨hq,a2,he,_⟩ | ⟨hq,_⟩
    ·rw[hq] at hw;rw[f8] at he;obtain⟨z,hz,b5⟩:=CE hr hd he;refine wpAny_first Z (E9 hs) (fun c a w h=>h) m J a w a5 a4 (.inl ⟨hw,fun w'=>hz w' (.inr b3)⟩) (ih _ _ a2 w g _ a3 (fun l hl=>?_) b5 (by rw[cI];exact hn) hb);obtain⟨V,e,hF⟩:=hh l hl;rcases gR Z e with⟨_,b0,U,e'⟩ | ⟨Y,_⟩
     ·rw[f8,he] at U;injection U with U;injection U with U _
      subst U;exact⟨V,e',hF⟩
     ·rw[hq] at Y;cases Y
    ·rw[hq] at hw;refine wpAny_first Z (E9 hs) (fun c a w h=>h) m J a w a5 a4 (.inr ⟨hw,rfl⟩) (ih _ _ _ w g _ a3 (fun l hl=>?_) (hr.put hd (t:=.none_) ⟨#[],rfl,rfl,fun j x h=>by simp at h⟩) (by rw[cI];exact hn) hb);obtain⟨V,e,hF⟩:=hh l hl;rcases gR Z e with⟨Y,_⟩ | ⟨_,e'⟩
     ·rw[hq] at Y;cases Y
     ·exact⟨V,e',hF⟩
   ·refine⟨fun h0=>(by rw[O] at h0;cases h0),fun i hi=>?_⟩;have b2:i∈j::r:=by rw[O] at hi;exact hi
    obtain⟨l0,r0,a3,b1⟩:=Uf hp i b2;obtain⟨o,Z⟩:=gK hi;have hd:∀d,o.dst=some d->d<a.tmps.size:=a0 o (by simpa using A8 Z);have hh:∀l∈(l0::r0),∃V,evS P call ops ((i,false)::l) σ=some (V,true)/\F V:=fun l hl=>h _ (b1 l hl)
    have hw:=yq hr a0 (o:=o);obtain⟨b6,e0,_⟩:=hh l0 (by simp);unfold wpOp;simp only[Z];rcases gR Z e0 with⟨hq,a2,he,_⟩ | ⟨hq,_⟩
    ·rw[hq] at hw;rw[f5] at he;rw[j8 hw];refine .inl (sy hr a7 hd he _ _ fun z w' g' h3 h4=>ih _ _ a2 w' g' _ a3 (fun l hl=>?_) h3 (by rw[cI];exact hn) (hb.trans h4));obtain⟨V,e,hF⟩:=hh l hl;rcases gR Z e with⟨_,b0,U,e'⟩ | ⟨Y,_⟩
     ·rw[f5,he] at U;injection U with U;injection U with U _
      subst U;exact⟨V,e',hF⟩
     ·rw[hq] at Y;cases Y
    ·rw[hq] at hw;rw[i7 (by simp[hw])];refine ih _ _ _ w g _ a3 (fun l hl=>?_) (hr.put hd (t:=.none_) ⟨#[],rfl,rfl,fun j x h=>by simp at h⟩) (by rw[cI];exact hn) hb;obtain⟨V,e,hF⟩:=hh l hl;rcases gR Z e with⟨Y,_⟩ | ⟨_,e'⟩
     ·rw[hq] at Y;cases Y
     ·exact⟨V,e',hF⟩
theorem zG{call:FuncId->List T->Option (T × Bool)}(Y:av P call){id:Nat}{ops:Array Oper}{k:St->R}{key:Option Dom}{out:Nat × b8}{n:Nat}{Q:Exit->Act->World->Prop}{w0:World}(a0:∀o∈ops.toList,∀d,o.dst=some d->d<n)
  (hk:∀O w' g' J Z,k O=some (Z,some out)->Rel P w' g' base O J->J.tmps.size=n->Below base w0 w'->Q .normal J w') (hc:Region.noSelect ops=true/\P.follows .mixedOrders=true) (h:BJ P call ops σ k=some (key,some out)) (hr:Rel P w g base σ a) (hn:a.tmps.size=n) (hb:Below base w0 w):(Code.region id ops true).wp P Q a w:=by
 unfold BJ at h
 split at h
 ·rename_i ls a1;unfold aat at h
  split at h
  ·cases h
  ·rename_i l0 ls
   split at h
   ·rename_i U ok he;obtain⟨a2,V⟩:=dL h;subst a2;obtain⟨h1,h2⟩:=Fp V;refine wp_region_any hc.2 (Fa (Q:=QN fun a w=>Q .normal a w) (fun e a w h=>?_) _ _ _ _ ?_)
    ·cases e <;> first | exact h | exact h.elim
    ·exact XV (F:=fun τ=>adn τ U) Y hc.1 a0 (fun O w' g' J h3 h4 h5 h6=>hk U w' g' J key h1 (h4.same h3) h5 h6) ops.size _ _ σ _ g a a1 (fun l' hl=>by
      rcases A2.1 hl with rfl | hl
      ·exact⟨U,he,⟨fun _=>rfl,fun _=>rfl⟩⟩
      ·exact h2 l' hl) (yg hr) hn (hb.trans ⟨rfl,rfl,rfl,g8 _,fun _ _=>rfl⟩)
   ·cases h
 ·cases h
theorem Rg{call:FuncId->List T->Option (T × Bool)}(J:av P call){id:Nat}{ops:Array Oper}{k:St->R}{key:Option Dom}{out:Nat × b8}{n:Nat}{Q:Exit->Act->World->Prop}{w0:World}(O:∀o∈ops.toList,∀d,o.dst=some d->d<n)
  (hk:∀Y w' g' Z V,k Y=some (V,some out)->Rel P w' g' base Y Z->Z.tmps.size=n->Below base w0 w'->Q .normal Z w') (h:zS P call ops σ k=some (key,some out)) (hr:Rel P w g base σ a) (hn:a.tmps.size=n) (hb:Below base w0 w):(Code.region id ops true).wp P Q a w:=by
 unfold zS at h;cases U:(Region.noSelect ops&&P.follows .mixedOrders) with
 | false=>rw[U] at h;cases h
 | true =>
  rw[U,f8] at h;simp only[a9] at U
  split at h
  ·rename_i l hp;cases a1:Eb ops with
   | true =>
    rw[a1,f8] at h;refine wp_region_any U.2 (Fa (Q:=QN fun a w=>Q .normal a w) (fun e a w h=>?_) _ _ _ _ ?_)
    ·cases e <;> first | exact h | exact h.elim
    ·exact Yr J U.1 a1 O (fun Y w' g' Z V h1 h2 h3 h4=>hk Y w' g' Z V h1 h2 h3 h4) ops.size _ l σ _ g a key hp h (yg hr) hn (hb.trans ⟨rfl,rfl,rfl,g8 _,fun _ _=>rfl⟩)
   | false =>
   rw[a1,f5] at h
   split at h
   rotate_left
   ·exact zG J O hk U h hr hn hb
   rename_i r0 hA;injection h with h
   subst h;have h:=hA;refine wp_region_any U.2 (AP (B:=w.heap.size) (Q:=fun a w=>Q .normal a w) (fun _ _ h=>h) _ _ _ _ ?_);exact ads (B:=w.heap.size) J U.1 O (fun Y w' g' Z V h1 h2 h3 h4=>hk Y w' g' Z V h1 h2 h3 h4) ops.size _ l σ _ g a key hp h (yg hr) hn (hb.trans ⟨rfl,rfl,rfl,g8 _,fun _ _=>rfl⟩) (g8 _) (fun _=>rfl) (fun _ j o d hj hl=>by have a0:=(t7.1 hj).1;simp[a0] at hl) (nF.start ops)
  ·split at h
   rotate_left
   ·exact zG J O hk U h hr hn hb
   ·rename_i ls hp
    split at h
    rotate_left
    ·exact zG J O hk U h hr hn hb
    rename_i r0 hA;injection h with h
    subst h;have h:=hA;unfold aat at h
    split at h
    ·cases h
    ·rename_i l ls
     split at h
     ·rename_i a2 ok he;obtain⟨a4,a3⟩:=dL h;subst a4;obtain⟨h1,h2⟩:=Fp a3;refine wp_region_any U.2 (AP (B:=w.heap.size) (Q:=fun a w=>Q .normal a w) (fun _ _ h=>h) _ _ _ _ ?_);exact adt (B:=w.heap.size) (F:=fun τ=>adn τ a2) (aia J) (fun _ _ _ _ h=>abA h) U.1 O (fun Y w' g' Z h3 h4 h5 h6=>hk a2 w' g' Z key h1 (h4.same h3) h5 h6) ops.size _ _ σ _ g a hp (fun l' hl=>by
       rcases A2.1 hl with rfl | hl
       ·exact⟨a2,he,⟨fun _=>rfl,fun _=>rfl⟩⟩
       ·exact h2 l' hl) (yg hr) hn (hb.trans ⟨rfl,rfl,rfl,g8 _,fun _ _=>rfl⟩) (g8 _) (fun _=>rfl) (fun _ j o d hj hl=>by
       have a0:=(t7.1 hj).1;simp[a0] at hl) (nF.start ops)
     ·cases h
end
section
variable [Low] {P:Program} {w w':World} {g g':G} {base:Nat} {σ:St} {a:Act}
theorem LO{o:Out}{σ:St}{O:Nat->St->R}{key:Option Dom}{out:Nat × b8}:∀ {V:List Nat},wY V o σ O=some (key,some out)->∃j∈V,o.code=j+2/\∃U,O j σ=some (U,some out)
 | [],h=>by simp[wY] at h
 | [j],h=>by obtain⟨h1,J⟩:=dL (show gO (o.code==j+2) (O j σ)=_ from h);exact⟨j,by simp,by simpa using h1,_,J⟩
 | j::k::r,h=>by
  obtain⟨h1,J⟩:=mF (show pG (o.code==j+2) (O j σ) (wY (k::r) o σ O)=_ from h);by_cases Y:o.code=j+2
  ·obtain⟨U,h1⟩:=h1 (by simpa using Y);exact⟨j,by simp,Y,U,h1⟩
  ·obtain⟨U,J⟩:=J (by simpa using Y);obtain⟨i,Z,q2,q3⟩:=LO J;exact⟨i,by simp at Z ⊢;exact .inr Z,q2,q3⟩
theorem ul{d:Dom}{code:Nat}{key:Option Dom}{out:Nat × b8}(h:lg d code σ=some (key,some out)):(restrictD d σ).dom=d/\σ.r = []/\out=(code,(restrictD d σ).flat):=by
 unfold lg at h;cases J:((restrictD d σ).dom==d&&σ.r.isEmpty) with
 | false=>rw[J] at h;cases h
 | true =>rw[J] at h;simp only[f8,b7,i8] at h;simp only[a9,p6] at J;exact⟨J.1,by simpa using J.2,h.2.symm⟩
theorem lx{x:Option b8}{key:Option Dom}{out:Nat × b8}(h:bV x=some (key,some out)):∃p,x=some p/\out=(1,p):=by
 unfold bV at h
 split at h
 ·rename_i p;simp only[b7,i8] at h;exact⟨p,rfl,h.2.symm⟩
 ·cases h
theorem XW{r:R}{x:Nat × b8}(h:yp r=some x):∃key,r=some (key,some x):=by
 unfold yp at h
 split at h
 ·rename_i k o;subst h;exact⟨k,rfl⟩
 ·cases h
theorem Mk{a0:Bool}{V:List Nat}{code:Nat}{pay:b8}{O:St}{Z:St->R}{Y:Nat->St->R}{kr:Option b8->R}{key:Option Dom}{out:Nat × b8}
  (h:BH a0 V (some (code,pay)) O Z Y kr=some (key,some out)) :
  (code=0/\∃k,Z O=some (k,some out))\/(code=1/\∃k,kr (some pay)=some (k,some out))\/∃j,code=j+2/\∃k,Y j O=some (k,some out):=by
 have c0:∀ {x:R} {k:Option Dom},pG (Out.code (some (code,pay))==0) (Z O) x=some (k,some out)->(code=0/\∃k,Z O=some (k,some out))\/∃k,x=some (k,some out):=by
  intro x k h;obtain⟨h1,J⟩:=mF h;by_cases U:code=0
  ·exact .inl ⟨U,h1 (by simpa [Out.code] using U)⟩
  ·exact .inr (J (by simpa [Out.code] using U))
 have lv:∀ {V:List Nat} {k:Option Dom},wY V (some (code,pay)) O Y=some (k,some out)->∃j,code=j+2/\∃k,Y j O=some (k,some out):=by intro V k h;obtain⟨j,_,h1,k2,J⟩:=LO h;exact⟨j,h1,k2,J⟩
 unfold BH at h
 split at h
 ·obtain⟨h1,J⟩:=dL h;exact .inl ⟨by simpa [Out.code] using h1,_,J⟩
 ·rcases c0 h with h | ⟨k,h⟩
  ·exact .inl h
  ·obtain⟨h1,J⟩:=dL h;exact .inr (.inl ⟨by simpa [Out.code] using h1,_,J⟩)
 ·rcases c0 h with h | ⟨k,h⟩
  ·exact .inl h
  ·exact .inr (.inr (lv h))
 ·rcases c0 h with h | ⟨k,h⟩
  ·exact .inl h
  ·obtain⟨h1,J⟩:=mF h;by_cases U:code=1
   ·exact .inr (.inl ⟨U,h1 (by simpa [Out.code] using U)⟩)
   ·obtain⟨k',J⟩:=J (by simpa [Out.code] using U);exact .inr (.inr (lv J))
theorem QJ:∀(cs:List Ce) (ds:b8) (i j:Nat) c,cs[j]?=some c->iU cs ds i j=aaQ c (ds (i+j))
 | [],_,_,_,_,h=>by simp at h
 | c::cs,ds,i,0,c',h=>by simp at h;subst h;rfl
 | c::cs,ds,i,j+1,c',h=>by have:=QJ cs ds (i+1) j c' (by simpa using h);show iU cs ds (i+1) j=_;rw[this,show i+1+j=i+(j+1) from by omega]
theorem aap{c:Ce}{x:D}{v:Value}(h:VC P w g base c x v):VC P w g base (qv c) (aaQ c x) v:=by
 cases c with
 | kb b =>have h:v=.bool b:=h;subst h;exact VD.bool (.b b)
 | _=>exact h
theorem MH{cs:List Ce}{ds:b8}{J:Array Value}(h:VCs P w g base cs ds J):VCs P w g base (cs.map qv) (iU cs ds 0) J:=by refine⟨by rw[h.1,m9],fun j c V=>?_⟩;rw[u6] at V;obtain⟨O,U,rfl⟩:=Option.map_eq_some_iff.1 V;obtain⟨u,Y,hv⟩:=h.2 j O U;exact⟨u,Y,by rw[QJ cs ds 0 j O U,i9];exact aap hv⟩
theorem aiC{t:T}{v:Value}(h:VT P w g base t v):VT P w g base t.wide v:=by
 obtain⟨sh,p⟩:=t
 match sh,h with
 | .one (.c c),h=>exact aap h
 | .one (.agg cs),⟨arr,h1,h2⟩=>exact⟨arr,h1,MH h2⟩
 | .tup xs,h=>exact h
theorem adP(e:Env)(j:Nat):cY j (e.map fun p=>(p.1,p.2.wide))=(cY j e).wide:=by
 induction e with
 | nil=>rfl
 | cons p e J =>
  obtain⟨i,v⟩:=p;simp only[u5,cY];cases (j==i) with
  | true=>rfl
  | false=>exact J
theorem Zm(h:sH)(j:Nat):bH j (h.map fun p=>(p.1,p.2.1.map qv,iU p.2.1 p.2.2 0))=(bH j h).map fun p=>(p.1.map qv,iU p.1 p.2 0):=by
 induction h with
 | nil=>rfl
 | cons p h J =>
  obtain⟨i,v⟩:=p;simp only[u5,bH];cases (j==i) with
  | true=>rfl
  | false=>exact J
theorem Br:∀(cs:List Ce) (ds:b8) (i:Nat),(iU cs ds i).length=cs.length
 | [],_,_=>rfl
 | c::cs,ds,i=>congrArg (· + 1) (Br cs ds (i+1))
theorem Rel.wide(J:Rel P w g base σ a)(O:σ.r = []):Rel P w g base σ.wide a:=by
 refine⟨fun i=>?_,fun id cs ds h=>?_,J.fresh,J.base_le,J.defers,J.low,J.mine⟩
 ·have:=J.env i;rw[O] at this;show VT P w g base (bZ i (σ.e.map fun p=>(p.1,p.2.wide)) σ.r) _;rw[O];show VT P w g base (cY i (σ.e.map fun p=>(p.1,p.2.wide))) _;rw[adP];exact aiC this
 ·have h:bH id (σ.h.map fun p=>(p.1,p.2.1.map qv,iU p.2.1 p.2.2 0))=some (cs,ds):=h;rw[Zm] at h;obtain⟨⟨U,V⟩,Z,h1⟩:=Option.map_eq_some_iff.1 h;injection h1 with h1 h2
  subst h1;subst h2;obtain⟨q1,q2,q3,q4,Y,E,q5,q6⟩:=J.box id U V Z;exact⟨q1,q2,q3,by rw[Br,m9],Y,E,q5,MH q6⟩
theorem Rel.cut(J:Rel P w g base σ a)(id:Nat)(ks:List Nat):Rel P w g base (σ.cut id ks) a:=by
 refine⟨fun i=>?_,J.box,J.fresh,J.base_le,J.defers,J.low,J.mine⟩;show VT P w g base (bZ i (iy (EC id ks) (iy (nY ks) σ.e)) σ.r) _;rcases mb i (EC id ks) (iy (nY ks) σ.e) σ.r with h | h
 ·rcases mb i (nY ks) σ.e σ.r with h' | h'
  ·rw[h,h'];exact J.env i
  ·rw[h,h'];trivial
 ·rw[h];trivial
def ant(P:Program)(base n:Nat)(w0:World)(fin:St->Option b8)(out:Nat × b8)(Y:St->R)(V:Nat->St->R)(Z:Option b8->R)(Q:Exit->Act->World->Prop):Prop:=
 (∀J w' g' U O,Y J=some (O,some out)->Rel P w' g' base J U->U.tmps.size=n->Below base w0 w'->Q .normal U w') /\
 (∀j J w' g' U O,V j J=some (O,some out)->Rel P w' g' base J U->U.tmps.size=n->Below base w0 w'->Q (.exit j) U w') /\
 (∀J w' g' U O,Z (fin J)=some (O,some out)->Rel P w' g' base J U->U.tmps.size=n->Below base w0 w'->Q .ret U w')
theorem FI{call:FuncId->List T->Option (T × Bool)}(a8:av P call){N:Nat}{ks:List Nat}{fin:St->Option b8}{n:Nat}{w0:World} :
  ∀(c:Code) (σ:St) (kn:St->R) (kx:Nat->St->R) (kr:Option b8->R) (key:Option Dom) (out:Nat × b8) (w:World) (g:G) (a:Act) (Q:Exit->Act->World->Prop),
   gY n c=true->cE P call N ks fin c σ kn kx kr=some (key,some out)->Rel P w g base σ a->a.tmps.size=n->Below base w0 w->ant P base n w0 fin out kn kx kr Q->c.wp P Q a w:=by
 intro c
 induction c with
 | skip =>intro σ kn kx kr key out w g a Q hd h hr hn hb hE;exact wp_skip (hE.1 σ w g a key h hr hn hb)
 | region id ops c2 =>
  intro σ kn kx kr key out w g a Q hd h hr hn hb hE;have a5:∀o∈ops.toList,∀d,o.dst=some d->d<n:=fun o ho d d1=>by have:=i6.1 hd o ho;rw[d1] at this;exact v5 this
  simp only[cE] at h;have hr:=hr.cut id ks;generalize σ.cut id ks=σ at *;cases hj:(hZ ks).contains (1000000+id) with
  | true =>
   rw[hj,f8] at h
   split at h
   ·rename_i d _ _
    split at h
    ·rename_i kk oo a6;obtain⟨a0,h⟩:=dL h;obtain⟨⟨code,pay⟩,rfl⟩:=B6.1 a0;have a7:∀J w' g' O U,lg d 0 (J.settle ks).wide=some (U,some (code,pay))->Rel P w' g' base J O->O.tmps.size=n->Below base w0 w'->Q .normal O w':=by
      intro J w' g' O U h1 V Z Y;obtain⟨q1,q2,q3⟩:=ul h1;injection q3 with q3 q4
      subst q3;subst q4;obtain⟨g2,a3⟩:=V.settle ks;have:=((a3.wide (MJ _ _)).restrictD q2 d).mkSt rfl;rw[q1] at this;exact hE.1 _ w' g2 O key h this Z Y
     cases c2 with
     | true=>exact Rg a8 a5 a7 a6 hr hn hb
     | false =>exact wp_region_list (NW a8 a7 ops.toList σ w g a kk a5 a5 a6 hr hn hb)
    ·cases h
   ·cases h
  | false =>
  rw[hj,f5] at h;cases c2 with
  | true=>exact Rg a8 a5 (fun J w' g' O U h1 V Z Y=>(V.settle ks).elim fun g2 a3=>hE.1 _ w' g2 O U h1 a3 Z Y) h hr hn hb
  | false =>exact wp_region_list (NW a8 (fun J w' g' O U h1 V Z Y=>(V.settle ks).elim fun g2 a3=>hE.1 _ w' g2 O U h1 a3 Z Y) ops.toList σ w g a key a5 a5 h hr hn hb)
 | seq x y b1 b2 =>intro σ kn kx kr key out w g a Q hd h hr hn hb hE;simp only[gY,a9] at hd;refine wp_seq (b1 σ _ kx kr key out w g a _ hd.1 h hr hn hb ⟨fun J w' g' O U h1 V Z Y=>?_,fun j J w' g' O U h1 V Z Y=>hE.2.1 j J w' g' O U h1 V Z Y,fun J w' g' O U h1 V Z Y=>hE.2.2 J w' g' O U h1 V Z Y⟩);exact b2 J kn kx kr U out w' g' O Q hd.2 h1 V Z Y hE
 | cond c x y b1 b2 =>
  intro σ kn kx kr key out w g a Q hd h hr hn hb hE;simp only[gY,a9] at hd;simp only[cE] at h;have hc:=cZ hr c
  split at h
  ·rename_i t hsh;have a4:a.eval c=.bool t:=by generalize opd σ c=q at *;obtain⟨sh,p⟩:=q;simp only at hsh;subst hsh;exact hc
   cases t with
   | true=>exact wp_cond_true a4 (b1 σ kn kx kr key out w g a Q hd.1 h hr hn hb hE)
   | false=>exact wp_cond_false a4 (b2 σ kn kx kr key out w g a Q hd.2 h hr hn hb hE)
  ·rename_i hsh;have a4:a.eval c=.bool ((opd σ c).p 0).bool:=by generalize opd σ c=q at *;obtain⟨sh,p⟩:=q;simp only at hsh;subst hsh;exact aaI hc
   cases hj:WL ks c with
   | true =>
    rw[hj,f8] at h
    split at h
    ·rename_i d _ _
     split at h
     ·rename_i kk oo a6;obtain⟨a0,h⟩:=dL h;obtain⟨⟨code,pay⟩,rfl⟩:=B6.1 a0;have b0:=Mk h;have a7:∀J w' g' O U,lg d 0 (J.settle ks).wide=some (U,some (code,pay))->Rel P w' g' base J O->O.tmps.size=n->Below base w0 w'->Q .normal O w':=by
       intro J w' g' O U h1 V Z Y;obtain⟨q1,q2,q3⟩:=ul h1;injection q3 with q3 q4
       subst q3;subst q4;obtain⟨g2,a3⟩:=V.settle ks;have:=((a3.wide (MJ _ _)).restrictD q2 d).mkSt rfl;rw[q1] at this;rcases b0 with⟨_,k,hk⟩ | ⟨hc,_⟩ | ⟨j,hc,_⟩
       ·exact hE.1 _ w' g2 O k hk this Z Y
       ·omega
       ·omega
      have c6:∀j J w' g' O U,lg d (j+2) (J.settle ks).wide=some (U,some (code,pay))->Rel P w' g' base J O->O.tmps.size=n->Below base w0 w'->Q (.exit j) O w':=by
       intro j J w' g' O U h1 V Z Y;obtain⟨q1,q2,q3⟩:=ul h1;injection q3 with q3 q4
       subst q3;subst q4;obtain⟨g2,a3⟩:=V.settle ks;have:=((a3.wide (MJ _ _)).restrictD q2 d).mkSt rfl;rw[q1] at this;rcases b0 with⟨hc,_⟩ | ⟨hc,_⟩ | ⟨j',hc,k,hk⟩
       ·omega
       ·omega
       ·obtain rfl:j'=j:=by omega
        exact hE.2.1 j' _ w' g2 O k hk this Z Y
      have c9:∀J w' g' O U,bV (fin J)=some (U,some (code,pay))->Rel P w' g' base J O->O.tmps.size=n->Below base w0 w'->Q .ret O w':=by
       intro J w' g' O U h1 V Z Y;obtain⟨pp,q1,q2⟩:=lx h1;injection q2 with q2 q3
       subst q2;subst q3;rcases b0 with⟨hc,_⟩ | ⟨_,k,hk⟩ | ⟨j',hc,_⟩
       ·omega
       ·exact hE.2.2 J w' g' O k (by rw[q1];exact hk) V Z Y
       ·omega
      obtain⟨h1,V⟩:=mF a6;refine wp_cond_split a4 (fun ht=>?_) (fun hf=>?_)
      ·obtain⟨k',h1⟩:=h1 ht;exact b1 (σ.learn ks c true) _ _ _ k' (code,pay) w g a Q hd.1 h1 (hr.learn (by rw[a4,ht])) hn hb ⟨a7,c6,c9⟩
      ·obtain⟨k',V⟩:=V hf;exact b2 (σ.learn ks c false) _ _ _ k' (code,pay) w g a Q hd.2 V (hr.learn (by rw[a4,hf])) hn hb ⟨a7,c6,c9⟩
     ·cases h
    ·cases h
   | false =>
   rw[hj,f5] at h;obtain⟨h1,V⟩:=mF h;refine wp_cond_split a4 (fun ht=>?_) (fun hf=>?_)
   ·obtain⟨k',h1⟩:=h1 ht;exact b1 (σ.learn ks c true) kn kx kr k' out w g a Q hd.1 h1 (hr.learn (by rw[a4,ht])) hn hb hE
   ·obtain⟨k',V⟩:=V hf;exact b2 (σ.learn ks c false) kn kx kr k' out w g a Q hd.2 V (hr.learn (by rw[a4,hf])) hn hb hE
  ·cases h
 | block id x ih =>
  intro σ kn kx kr key out w g a Q hd h hr hn hb hE;simp only[cE] at h;cases hj:(hZ ks).contains id with
  | true =>
   rw[hj,f8] at h
   split at h
   ·rename_i d _ _
    split at h
    ·rename_i kk oo a6;obtain⟨a0,h⟩:=dL h;obtain⟨⟨code,pay⟩,rfl⟩:=B6.1 a0;have b0:=Mk h;have a7:∀J w' g' O U,lg d 0 J=some (U,some (code,pay))->Rel P w' g' base J O->O.tmps.size=n->Below base w0 w'->Q .normal O w':=by
      intro J w' g' O U h1 V Z Y;obtain⟨q1,q2,q3⟩:=ul h1;injection q3 with q3 q4
      subst q3;subst q4;have:=(V.restrictD q2 d).mkSt rfl;rw[q1] at this;rcases b0 with⟨_,k,hk⟩ | ⟨hc,_⟩ | ⟨j,hc,_⟩
      ·exact hE.1 _ w' g' O k hk this Z Y
      ·omega
      ·omega
     refine wp_block (ih σ _ _ _ kk (code,pay) w g a _ hd a6 hr hn hb ⟨a7,fun j J w' g' O U h1 V Z Y=>?_,fun J w' g' O U h1 V Z Y=>?_⟩)
     ·have h1:(bif j==id then lg d 0 else lg d (j+2)) J=some (U,some (code,pay)):=h1;simp only[Exit.inBlock];by_cases e:j=id
      ·rw[j8 e];rw[show (j==id)=true from by simpa using e,f8] at h1;exact a7 J w' g' O U h1 V Z Y
      ·rw[i7 e];rw[show (j==id)=false from by simpa using e,f5] at h1;obtain⟨q1,q2,q3⟩:=ul h1;injection q3 with q3 q4
       subst q3;subst q4;have:=(V.restrictD q2 d).mkSt rfl;rw[q1] at this;rcases b0 with⟨hc,_⟩ | ⟨hc,_⟩ | ⟨j',hc,k,hk⟩
       ·omega
       ·omega
       ·obtain rfl:j'=j:=by omega
        exact hE.2.1 j' _ w' g' O k hk this Z Y
     ·obtain⟨pp,q1,q2⟩:=lx h1;injection q2 with q2 q3;subst q2;subst q3;rcases b0 with⟨hc,_⟩ | ⟨_,k,hk⟩ | ⟨j',hc,_⟩
      ·omega
      ·exact hE.2.2 J w' g' O k (by rw[q1];exact hk) V Z Y
      ·omega
    ·cases h
   ·cases h
  | false =>
  rw[hj,f5] at h;have hr:=hr.shed ks x;generalize σ.shed ks x=σ at *;refine wp_block (ih σ _ _ kr key out w g a _ hd h hr hn hb ⟨fun J w' g' O U h1 V Z Y=>hE.1 _ w' g' O U h1 (V.restrict σ) Z Y,fun j J w' g' O U h1 V Z Y=>?_,fun J w' g' O U h1 V Z Y=>hE.2.2 J w' g' O U h1 V Z Y⟩);have h1:(bif j==id then kn (σ.restrict J) else kx j J)=some (U,some out):=h1;simp only[Exit.inBlock];by_cases e:j=id
  ·rw[j8 e];rw[show (j==id)=true from by simpa using e,f8] at h1;exact hE.1 _ w' g' O U h1 (V.restrict σ) Z Y
  ·rw[i7 e];rw[show (j==id)=false from by simpa using e,f5] at h1;exact hE.2.1 j J w' g' O U h1 V Z Y
 | loop x ih =>
  intro σ kn kx kr key out w g a Q hd h hr hn hb hE;simp only[cE] at h;cases b3:σ.r.isEmpty with
  | false=>rw[b3] at h;cases h
  | true =>
   rw[b3] at h;have b3:σ.r = []:=by simpa using b3
   simp only[l8,f5] at h;obtain⟨a0,h⟩:=dL h;generalize c5:(fun p=>yp (cE P call N ks fin x (mkSt σ.dom p) (lg σ.dom 0) (fun j=>lg σ.dom (j+2)) bV))=step at *;obtain⟨oo,c8⟩:=B6.1 a0;rw[c8] at h;obtain⟨code,pay⟩:=oo
   -- where it ends
   have b5:(∀j w' g' O,code=j+2->Rel P w' g' base (mkSt σ.dom pay) O->O.tmps.size=n->Below base w0 w'->Q (.exit j) O w') /\
     (∀J w' g' O,code=1->fin J=some pay->Rel P w' g' base J O->O.tmps.size=n->Below base w0 w'->Q .ret O w'):=by
    have c4:∀ {k':Option Dom},wY (cW x).eraseDups (some (code,pay)) (mkSt σ.dom (Out.pay (some (code,pay)))) kx=some (k',some out)->code≠1/\∀j w' g' O,code=j+2->Rel P w' g' base (mkSt σ.dom pay) O->O.tmps.size=n->Below base w0 w'->Q (.exit j) O w':=by
     intro k' hl;obtain⟨j,_,h1,k2,V⟩:=LO hl;have h1:code=j+2:=h1;refine⟨by omega,fun j' w' g' O e0 b6 c1 c3=>?_⟩;obtain rfl:j'=j:=by omega
     exact hE.2.1 j' _ w' g' O k2 V b6 c1 c3
    have c7:∀ {k':Option Dom},kr (some pay)=some (k',some out)->∀J w' g' O,code=1->fin J=some pay->Rel P w' g' base J O->O.tmps.size=n->Below base w0 w'->Q .ret O w':=by intro k' hk J w' g' O _ hf b6 c1 c3;exact hE.2.2 J w' g' O k' (by rw[hf];exact hk) b6 c1 c3
    cases hh:fS x with
    | true =>
     rw[hh,f8] at h
     split at h
     ·obtain⟨h1,V⟩:=dL h;have h1:code=1:=by simpa [Out.code] using h1
      exact⟨fun j w' g' O hj=>by omega,c7 V⟩
     ·obtain⟨h1,V⟩:=mF h;by_cases hc:code=1
      ·obtain⟨k',h1⟩:=h1 (by simpa [Out.code] using hc);exact⟨fun j w' g' O hj=>by omega,c7 h1⟩
      ·obtain⟨k',V⟩:=V (by simpa [Out.code] using hc);exact⟨(c4 V).2,fun J w' g' O h=>absurd h hc⟩
    | false =>rw[hh,f5] at h;exact⟨(c4 h).2,fun J w' g' O h1=>absurd h1 (c4 h).1⟩
   -- the rounds
   refine wp_loop_ghost (fun m a w=>∃p g,ba step m p=some (code,pay)/\Rel P w g base (mkSt σ.dom p) a/\a.tmps.size=n/\Below base w0 w) N ⟨σ.flat,g,c8,hr.mkSt b3,hn,hb⟩ ?_;rintro m a1 w1 ⟨p,g1,a2,d4,d3,d5⟩;cases m with
   | zero=>cases a2
   | succ m =>
    unfold ba at a2;cases hs:step p with
    | none=>rw[hs] at a2;cases a2
    | some cp =>
     obtain⟨b4,c0⟩:=cp;rw[hs] at a2;have d2:yp (cE P call N ks fin x (mkSt σ.dom p) (lg σ.dom 0) (fun j=>lg σ.dom (j+2)) bV)=some (b4,c0):=by rw[<- hs,<- c5]
     obtain⟨k',a6⟩:=XW d2;refine ih (mkSt σ.dom p) _ _ _ k' (b4,c0) w1 g1 a1 _ hd a6 d4 d3 d5 ⟨fun J w' g' O U h1 V Z Y=>?_,fun j J w' g' O U h1 V Z Y=>?_,fun J w' g' O U h1 V Z Y=>?_⟩
     ·obtain⟨q1,q2,q3⟩:=ul h1;injection q3 with q3 q4;subst q3;subst q4;have:=(V.restrictD q2 σ.dom).mkSt rfl;rw[q1] at this;exact⟨m,I7 m,_,g',a2,this,Z,Y⟩
     ·obtain⟨q1,q2,q3⟩:=ul h1;injection q3 with q3 q4;subst q3;subst q4;have:=(V.restrictD q2 σ.dom).mkSt rfl;rw[q1] at this;simp only[b7,i8] at a2;obtain⟨rfl,rfl⟩:=a2;exact b5.1 j w' g' O rfl this Z Y
     ·obtain⟨pp,q1,q2⟩:=lx h1;injection q2 with q2 q3;subst q2;subst q3;simp only[b7,i8] at a2;obtain⟨rfl,rfl⟩:=a2;exact b5.2 J w' g' O rfl q1 V Z Y
 | exit id =>intro σ kn kx kr key out w g a Q hd h hr hn hb hE;exact wp_exit (hE.2.1 id σ w g a key h hr hn hb)
 | ret =>intro σ kn kx kr key out w g a Q hd h hr hn hb hE;exact wp_ret (hE.2.2 σ w g a key h hr hn hb)
 | _ =>intro σ kn kx kr key out w g a Q hd h hr hn hb hE;simp only[cE] at h;cases h
end
section
variable [Low] {P:Program} {w w':World} {g g':G} {base:Nat} {σ:St} {a:Act}
def VL(P:Program)(w:World)(g:G)(base:Nat):List Sh1->b8->List Value->Prop
 | [],_,[]=>True
 | x::xs,p,v::vs=>V1 P w g base x p v/\VL P w g base xs (p.drop x.size) vs
 | _,_,_=>False
theorem xe{p q:b8}{i:Nat}(h:i<p.length):(p++q) i=p i:=by simp[gd,List.getD,v9 h]
theorem Yv:∀ {xs:List Sh1} {p:b8} {J:List Value},VL P w g base xs p J->J.length=xs.length/\∀(j:Nat) x,xs[j]?=some x->∃u,J[j]?=some u/\V1 P w g base x (sub p (rD xs j) x.size) u
 | [],p,[],h=>⟨rfl,fun j x h=>by simp at h⟩
 | [],p,v::J,h=>h.elim
 | x::xs,p,[],h=>h.elim
 | x::xs,p,v::J,h=>by
  obtain⟨h1,Y⟩:=h;obtain⟨U,V⟩:=Yv Y;refine⟨by simp[U],fun j y O=>?_⟩;cases j with
  | zero =>simp only[n5,b7] at O;subst O;exact⟨v,rfl,na (fun j O=>by rw[fq _ _ _ _ O];simp[rD]) h1⟩
  | succ j =>
   obtain⟨u,Z,q2⟩:=V j y (by simpa using O);refine⟨u,by simpa using Z,na (fun i hi=>?_) q2⟩;rw[fq _ _ _ _ hi,fq _ _ _ _ hi,JO]
   congr 1
   simp only[rD,E4,N2];omega
theorem afw{t:TypeId}{x r:T}{u:Value}(h:AM P t σ x=some r)(J:VT P w g base x u):∃A,u=.pointer (some A):=by
 unfold AM at h
 split at h
 ·obtain⟨sh,p⟩:=x;cases sh with
  | tup xs=>cases h
  | one x=>cases x with
   | agg xs=>cases h
   | c x=>cases x with
    | ptr id off=>exact⟨_,J⟩
    | eptr O e off=>cases O with
     | none=>obtain⟨_,_,_,_,h,_⟩:=J;exact⟨_,h⟩
     | some t=>obtain⟨_,_,h,_⟩:=J;exact⟨_,h⟩
    | cptr cells off=>obtain⟨_,_,h,_⟩:=J;exact⟨_,h⟩
    | _=>cases h
 ·cases h
def Bn(tmps:Array Value):ResultVar->Sem Value
 | .tmp t=>pure (tmps.getD t undef)
 | .cell a t=>do loadVar t (<- asAddr (tmps.getD a undef))
theorem xM(Y:Rel P w g base σ a):∀ {rs:List ResultVar} {J:List Sh1} {p:b8},rY P σ rs=some (J,p)->∃vs:List Value,(rs.mapM (Bn a.tmps)).run P w=.ok vs w/\VL P w g base J p vs
 | [],J,p,h=>by simp only[rY,b7,i8] at h;obtain⟨rfl,rfl⟩:=h;exact⟨[],by simp,trivial⟩
 | r::rs,J,p,h=>by
  unfold rY at h;simp only at h
  split at h
  ·rename_i v a1 p0 hv a0;obtain⟨vs,k1,k2⟩:=xM Y a0;have h1:∃u,(Bn a.tmps r).run P w=.ok u w/\VT P w g base v u:=by
    cases r with
    | tmp t =>simp only[b7] at hv;subst hv;exact⟨_,by simp[Bn],Y.env t⟩
    | cell x t =>simp only at hv;obtain⟨A,hA⟩:=afw hv (Y.env x);obtain⟨z,O,U⟩:=Rw Y hv (Y.env x);have O:=O w (Below.refl _ _);refine⟨z,?_,U⟩;rw[hA] at O;simp only[Bn,hA,asAddr,j7,m8,g7];simpa only[Instr.loadAt,Instr.sureAddr,j7,m8,g7] using O
   obtain⟨u,O,U⟩:=h1;have V:(List.mapM (Bn a.tmps) (r::rs)).run P w=.ok (u::vs) w:=by rw[List.mapM_cons];simp only[j7,O,g7,k1,m8]
   obtain⟨a2,vp⟩:=v
   split at h
   ·rename_i b Z;simp only at Z;subst Z;simp only[b7,i8] at h;obtain⟨rfl,rfl⟩:=h;refine⟨_,V,?_,k2⟩;have U:u=.bool b:=U;subst U;exact VD.bool (.b b)
   ·rename_i x _ Z;simp only at Z;subst Z;simp only[b7,i8] at h;obtain⟨rfl,rfl⟩:=h;refine⟨_,V,na (fun j hj=>?_) U,?_⟩
    ·rw[xe (by rw[eH];exact hj),fq _ _ _ _ hj,i9]
    ·rw[J0 (by rw[eH];exact g8 _)];simpa [List.drop_eq_nil_of_le (C5 (eH vp x.size 0))] using k2
   ·cases h
  ·cases h
theorem aav{pairs:List (Tok × Tok)}(h1:cj (pairs.map (·.1))=true)(h2:cj (pairs.map (·.2))=true){c r:Ce}(J:KK c r=true)(hp:∀t x e U Y V,c=.own t x e->r=.own U Y V->(t,U)∈pairs)
  {x:D} {v:Value} (hv:VC P w g base c x v):VC P w (Hq g pairs) base r x v:=by
 cases c with
 | d s=>cases r with
  | d s' =>
   have:s=s':=by simpa [KK] using J
   subst this;exact hv
  | _=>simp[KK] at J
 | own t O e=>cases r with
  | own U Y V =>
   have hm:=hp t O e U Y V rfl rfl;have hx:O=Y/\e=V/\(bm U&&O)=(bm t&&O):=by
    have J:(O==Y&&e==V&&U.1==0&&(!O||bm t==bm U))=true:=by cases O <;> exact J
    simp only[a9,p6,y9,m6] at J;refine⟨J.1.1.1,J.1.1.2,?_⟩;rcases J.2 with h | h
    ·rw[h,C9,C9]
    ·rw[h]
   obtain⟨rfl,rfl,a1⟩:=hx;exact ahJ h1 h2 (g8 _) hm a1 hv
  | d s =>
   cases O with
   | true=>cases s <;> simp[KK] at J
   | false =>
    cases s with
    | sl V =>
     have:e=V:=by simpa [KK] using J
     subst this;obtain⟨row,a0,Z⟩:=hv;have:VD P w g.prot (.sl e) x v:=nO a0 Z;exact this
    | _=>simp[KK] at J
  | _=>cases O <;> simp[KK] at J
 | _=>cases r <;> simp[KK] at J
theorem Fh:∀ {cs rs:List Ce},Hy cs rs=true->cs.length=rs.length/\∀(j:Nat) r,rs[j]?=some r->∃c,cs[j]?=some c/\KK c r=true
 | [],[],_=>⟨rfl,fun j r h=>by simp at h⟩
 | [],r::rs,h=>by simp[Hy] at h
 | c::cs,[],h=>by simp[Hy] at h
 | c::cs,r::rs,h=>by
  simp only[Hy,a9] at h;obtain⟨O,U⟩:=Fh h.2;refine⟨by simp[O],fun j x J=>?_⟩;cases j with
  | zero =>simp only[n5,b7] at J;subst J;exact⟨c,rfl,h.1⟩
  | succ j =>obtain⟨Y,V,Z⟩:=U j x (by simpa using J);exact⟨Y,by simpa using V,Z⟩
theorem Rt{ts:List Tok}{c:Ce}{t:Tok}{x:Bool}{e:TypeId}(h:eO ts c=.own t x e):∃J,c=.own t J e:=by
 cases c with
 | own t0 J V=>simp only[eO,Ce.own.injEq] at h;obtain⟨rfl,_,rfl⟩:=h;exact⟨J,rfl⟩
 | eptr t e off=>cases t <;> cases h
 | inn O Z off Y=>simp only[eO] at h;cases U:ts.contains O <;> rw[U] at h <;> cases h
 | _=>cases h
theorem aji{pairs:List (Tok × Tok)}(h1:cj (pairs.map (·.1))=true)(Y:cj (pairs.map (·.2))=true){ts:List Tok}{x y:Sh1}(O:amr (x.map (eO ts)) y=true)(Z:∀q∈dv x.ces y.ces,q∈pairs)
  {p:b8} {v:Value} (hv:V1 P w g base (x.map (eO ts)) p v):x.size=y.size/\V1 P w (Hq g pairs) base y p v:=by
 cases x with
 | c c=>cases y with
  | c r =>refine⟨rfl,aav h1 Y O (fun t x e t' x' e' e1 e2=>?_) hv⟩;obtain⟨x0,rfl⟩:=Rt e1;subst e2;exact Z _ (by simp[Sh1.ces,dv])
  | agg ys=>cases O
 | agg xs=>cases y with
  | c r=>cases O
  | agg ys =>
   obtain⟨U,k2⟩:=Fh (show Hy (xs.map (eO ts)) ys=true from O);rw[m9] at U;obtain⟨a2,rfl,q1,q2⟩:=hv;refine⟨U,a2,rfl,by rw[q1,m9,U],fun j r hj=>?_⟩;obtain⟨c,J,a0⟩:=k2 j r hj;obtain⟨u,hu,a1⟩:=q2 j c J;refine⟨u,hu,aav h1 Y a0 (fun t x e t' x' e' e1 e2=>?_) a1⟩;rw[u6] at J;cases V:xs[j]? with
   | none=>rw[V] at J;cases J
   | some c0 =>
    rw[V] at J;injection J with J
    rw[e1] at J;obtain⟨x0,rfl⟩:=Rt J;subst e2;exact Z _ (yi V hj)
theorem No(x:Sh1):x.ces.length=x.size:=by cases x <;> rfl
theorem ZF{pairs:List (Tok × Tok)}(h1:cj (pairs.map (·.1))=true)(V:cj (pairs.map (·.2))=true){ts:List Tok}:∀ {xs ys:List Sh1},fit (xs.map (Sh1.map (eO ts))) ys=true->(∀q∈dv (dU xs) (dU ys),q∈pairs) ->
  ∀ {p:b8} {J:List Value},VL P w g base (xs.map (Sh1.map (eO ts))) p J->VL P w (Hq g pairs) base ys p J
 | [],[],_,_,p,J,h=>by cases J <;> exact h
 | [],y::ys,h,_,_,_,_=>by simp[fit] at h
 | x::xs,[],h,_,_,_,_=>by simp[fit] at h
 | x::xs,y::ys,h,hp,p,[],hv=>hv.elim
 | x::xs,y::ys,h,hp,p,v::J,hv=>by
  simp only[u5,fit,a9] at h;obtain⟨Y,Z⟩:=hv;have O:x.size=y.size:=by
   cases x with
   | c c=>cases y with
    | c r=>rfl
    | agg ys=>cases h.1
   | agg xs=>cases y with
    | c r=>cases h.1
    | agg ys =>
     have:=(Fh (show Hy (xs.map (eO ts)) ys=true from h.1)).1
     rwa [m9] at this
  have e:dv (dU (x::xs)) (dU (y::ys))=dv x.ces y.ces++dv (dU xs) (dU ys):=by simp only[dU,F2];exact Dp (by rw[No,No,O])
  rw[e] at hp;refine⟨(aji h1 V h.1 (fun q U=>hp q (m7.2 (.inl U))) Y).2,?_⟩;have:=ZF h1 V h.2 (fun q U=>hp q (m7.2 (.inr U))) Z
  rwa [Sh1.size_map,O] at this
theorem Sw{f:Ce->Ce}(hk:iu P base g g' w w' f):∀ {xs:List Sh1} {p:b8} {J:List Value},VL P w g base xs p J->VL P w' g' base (xs.map (Sh1.map f)) p J
 | [],p,J,h=>by cases J <;> exact h
 | x::xs,p,[],h=>h.elim
 | x::xs,p,v::J,h=>⟨hk.v1 h.1,by rw[Sh1.size_map];exact Sw hk h.2⟩
theorem adh(hr:Rel P w g base σ a){fn:Func}{rs:Sh}{p:b8}(h:fY P fn rs σ=some p) :
  ∃v g',(results fn a.tmps).run P w=.ok v w/\VT P w g' base ⟨rs,p⟩ v/\(∀b,Low.old b->g'.prot b=Low.low b)/\(∀b,w.heap.size<=b->g'.prot b=0/\g'.owner b=none):=by
 unfold fY at h
 split at h
 ·rename_i O p0 a1;generalize a4:ZI (dU O) (dU rs.list)=ts at h;generalize a3:dv (dU O) (dU rs.list)=pairs at h;cases V:(fit (O.map (Sh1.map (eO ts))) rs.list&&cj (pairs.map (·.1))&&cj (pairs.map (·.2))&&rs.tupOk) with
  | false=>rw[V] at h;cases h
  | true =>
   rw[V,f8] at h;injection h with h
   subst h;simp only[a9] at V;obtain⟨⟨⟨c1,c2⟩,c3⟩,c4⟩:=V;obtain⟨J,k1,k2⟩:=xM hr a1;have k3:=ZF c2 c3 c1 (fun q hq=>by rw[<- a3];exact hq) (Sw (ym g ts w) k2);obtain⟨Z,q2⟩:=Yv k3;have hs:=hr.seal ts;have a0:(results fn a.tmps).run P w=.ok (if h:J.toArray.size=1 then J.toArray[0] else .tuple J.toArray) w:=by
    have e:results fn a.tmps=(do let J <- fn.results.mapM (Bn a.tmps);pure (if h:J.size=1 then J[0] else .tuple J)):=by
     unfold results
     congr 1
    rw[e,K4];simp only[j7,Sem.run_map,k1,g7,m8]
   refine⟨_,Hq (bB g ts) pairs,a0,?_,fun b Y=>(hs.low.2.1 b (by rw[hs.low.1.1];exact Y)).2.1,fun b Y=>?_⟩
   ·cases rs with
    | one x =>
     have hl:J.length=1:=by rw[Z];rfl
     obtain⟨u,hu,U⟩:=q2 0 x rfl;rw[dif_pos (by simpa using hl)];have:J.toArray[0]'(by simp[hl])=u:=by have:=hu;rw[g6 (by omega)] at this;simpa using this
     rw[this];exact na (fun j hj=>by rw[fq _ _ _ _ hj];simp[rD]) U
    | tup xs =>
     have a2:¬J.toArray.size=1:=by simp only[z6,Z];simpa [Sh.list,Sh.tupOk] using c4
     rw[dif_neg a2];exact⟨J.toArray,rfl,by simp[Z,Sh.list],fun j x hj=>by obtain⟨u,hu,U⟩:=q2 j x hj;exact⟨u,by simpa using hu,U⟩⟩
   ·have:=hs.fresh b Y;refine⟨this.1,?_⟩;show (match (bB g ts).owner b with | some (Sum.inr t)=>(fwd pairs t).map Sum.inr | _=>none)=none;rw[this.2]
 ·cases h
theorem ub:∀(args:List T) (k i:Nat),cY i (ox k args)=if k<=i then (args[i - k]?).getD .any else .any
 | [],k,i=>by simp[ox,cY]
 | v::vs,k,i=>by
  simp only[ox,cY];by_cases e:i=k
  ·subst e;simp
  ·rw[show (i==k)=false from by simpa using e,f5,ub vs (k+1) i];by_cases h:k<=i
   ·rw[j8 h,j8 (by omega),show i - k=(i - (k+1))+1 from by omega];simp
   ·rw[i7 h,i7 (by omega)]
end
inductive WD (P:Program):S->D->Prop
 | int (k:IntKind) (d:D):WD P (.int k) d
 | bool (d:D):WD P .bool d
 | str (d:D):WD P .str d
 | opq (d:D):WD P .opq d
 | sl (e:TypeId) (d:D) (row:List S) (hr:bk P e=some row) (h1:d.rows.length<=9223372036854775807) (h2:∀i j s,i<d.rows.length->row[j]?=some s->WD P s (d.rows.getD i [] j)):WD P (.sl e) d
theorem VD.wd{P:Program}{w:World}{prot:Nat->Nat}{s:S}{x:D}{v:Value}(h:VD P w prot s x v):WD P s x:=by
 induction h with
 | int k d=>exact .int k d
 | bool d=>exact .bool d
 | str d=>exact .str d
 | opq d h=>exact .opq d
 | sl e d A c row u O h1 J V Y U=>exact .sl e d row O (o8 h1 J) U
def WC(P:Program):Ce->D->Prop
 | .d s,x=>WD P s x
 | .cptr cells _,x=>∀(j:Nat) s,cells[j]?=some s->WD P s (x.rows.getD 0 [] j)
 | .own _ _ _,x=>x.rows.length<=9223372036854775807
 | _,_=>True
def WT(P:Program)(t:T):Prop:=
 match t.sh with
 | .one (.c c)=>WC P c (t.p 0)
 | .one (.agg xs)=>∀(j:Nat) c,xs[j]?=some c->WC P c (t.p j)
 | .tup _=>True
theorem afu{P:Program}{w:World}{g:G}{base:Nat}{c:Ce}{x:D}{v:Value}(h:VC P w g base c x v):WC P c x:=by
 cases c with
 | d s=>exact VD.wd h
 | cptr cells off =>obtain⟨b,o,_,_,h⟩:=h;intro j s hs;obtain⟨u,_,h⟩:=h j s hs;exact h.wd
 | own t O e =>
  obtain⟨row,_,h⟩:=h;rcases h with⟨J,_⟩ | ⟨cap,arr,E,_,h2,h3,_⟩
  ·show x.rows.length<=_;rw[J];simp
  ·exact o8 h2 h3.1
 | _=>trivial
theorem afW{P:Program}{w:World}{g:G}{base:Nat}{t:T}{v:Value}(h:VT P w g base t v):WT P t:=by
 obtain⟨sh,p⟩:=t;cases sh with
 | tup xs=>trivial
 | one x=>cases x with
  | c c=>exact afu h
  | agg xs =>obtain⟨O,_,_,h⟩:=h;intro j c J;obtain⟨u,_,h⟩:=h j c J;exact afu h
theorem ZQ{P:Program}{call:FuncId->List T->Option (T × Bool)}(a2:av P call){N:Nat}{ks:List Nat}{f:FuncId}{fn:Func}{rs:Sh}{args:List T}{key:Option Dom}{p:b8}
  (a6:∀V w,(callFunc f V).run P w=.ok (.enter f V) w) (hf:P.funcs[f]?=some fn) (h:(∀t∈args,WT P t)->aZ P call N ks fn rs args=some (key,some (1,p))) (a3:rs.isW=false:=by rfl):aQ P f args ⟨rs,p⟩:=by
 refine aQ.of a3 ⟨a6,fun w prot V U a1=>?_⟩
 replace h:=h fun t ht=>by obtain⟨j,hj⟩:=E7 ht;obtain⟨u,_,h⟩:=U.2 j t hj;exact afW h
 letI:Low:=⟨prot,fun b=>w.heap[b]?,fun b=>b<w.heap.size,fun _=>none,0,fun _ _ _ _=>True⟩
 unfold aZ at h
 split at h
 ·rename_i c hb;cases Z:(gY fn.ntmps c&&Nat.ble args.length fn.ntmps&&Nat.ble fn.ntmps 1000000) with
  | false=>rw[Z] at h;cases h
  | true =>
   rw[Z,f8] at h;simp only[a9] at Z;obtain⟨Z,a5⟩:=Z;have a8:fn.ntmps<=1000000:=v5 a5;have b0:args.length<=fn.ntmps:=v5 Z.2;refine calls_of_wp hf hb ?_;have a4:Rel P w (g0 w.heap.size prot) w.heap.size (start args) { tmps:=V++Array.replicate (fn.ntmps - V.size) undef,defers:= [] }:=by
    refine⟨fun i=>?_,fun id cs ds hl=>(by cases hl),fun b hb=>⟨a1 b hb,rfl⟩,g8 _,⟨rfl,by simp only[A9,Array.size_replicate];have:=U.1;omega⟩,⟨⟨rfl,rfl⟩,fun b hb=>⟨rfl,rfl,rfl,hb⟩,fun t x hx=>by cases hx⟩,fun _ _ _ _=>trivial⟩;show VT P w (g0 w.heap.size prot) w.heap.size (cY i (ox 0 args)) _;rw[ub,j8 (y5 _),Nat.sub_zero];cases ht:args[i]? with
    | none=>trivial
    | some t =>
     obtain⟨u,hu,a7⟩:=U.2 i t ht;have hi:i<V.size:=(t7.1 hu).1;have:(V++Array.replicate (fn.ntmps - V.size) undef).getD i undef=u:=by rw[y3,r9 hi,hu];rfl
     rw[this];exact a7
   have hn:(V++Array.replicate (fn.ntmps - V.size) undef).size=fn.ntmps:=by have:=U.1;simp;omega
   have a0:∀(Y:Act) (w':World) (O:St) (g':G) (J:Option Dom),bV (fY P fn rs O)=some (J,some (1,p))->Rel P w' g' w.heap.size O Y->Below w.heap.size w w'->Y.defers = []/\∃v,(results fn Y.tmps).run P w'=.ok v w'/\∃v' g',Ending.returned v=.returned v'/\Res P prot w w' ⟨rs,p⟩ v' g':=by
    intro Y w' O g' J h1 h2 h3;obtain⟨p',k1,k2⟩:=lx h1;injection k2 with _ k2
    subst k2;obtain⟨v,g2,q1,q2,q3,q4⟩:=adh h2 k1;exact⟨h2.defers.1,v,q1,v,g2,rfl,h3,q2,q3,q4⟩
   exact FI a2 c (start args) _ _ _ key (1,p) w (g0 w.heap.size prot) _ _ Z.1 h a4 hn (Below.refl _ _)
    ⟨fun O w' g' Y J h1 h2 h3 h4=>a0 Y w' O g' J h1 h2 h4,fun j O w' g' Y J h1=>(by cases h1),fun O w' g' Y J h1 h2 h3 h4=>a0 Y w' O g' J h1 h2 h4⟩
 ·cases h
theorem Xi{P:Program}{call:FuncId->List T->Option (T × Bool)}(b0:av P call){N:Nat}{ks:List Nat}{f:FuncId}{fn:Func}{cs:List Ce}{args:List T}{key:Option Dom}{p:b8}
  (b6:∀vs w,(callFunc f vs).run P w=.ok (.enter f vs) w) (hf:P.funcs[f]?=some fn) (h:(∀t∈args,WT P t)->afr P call N ks fn (.tup [.agg (.any::.any::.any::.any::cs)]) args=some (key,some (1,p))):aQ P f args ⟨.tup [.agg (.any::.any::.any::.any::cs)],p⟩:=by
 refine aQ.ofN rfl ⟨b6,fun a7 J w prot vs Z a8=>?_,fun a7 J=>by injection J with J;injection J with J _;injection J with J;injection J with J _;cases J⟩;have b1:a7=cs:=by
  injection J with J
  injection J with J _
  injection J with J
  injection J with _ J
  injection J with _ J
  injection J with _ J
  injection J with _ J
  exact J.symm
 subst b1
 replace h:=h fun t ht=>by obtain⟨j,hj⟩:=E7 ht;obtain⟨u,_,h⟩:=Z.2 j t hj;exact afW h
 letI:Low:=⟨prot,fun b=>w.heap[b]?,fun b=>b<w.heap.size,fun _=>none,0,fun _ _ _ _=>True⟩
 unfold afr at h
 split at h
 ·rename_i c a0 hb a3;have a3:a0=a7:=by
   injection a3 with J
   injection J with J _
   injection J with J
   injection J with _ J
   injection J with _ J
   injection J with _ J
   injection J with _ J
   exact J.symm
  subst a3;cases hc:(gY fn.ntmps c&&Nat.ble args.length fn.ntmps&&Nat.ble fn.ntmps 1000000&&a0.all Ce.isD) with
  | false=>rw[hc] at h;cases h
  | true =>
   rw[hc,f8] at h;simp only[a9] at hc;obtain⟨⟨hc,b3⟩,c1⟩:=hc;have c2:fn.ntmps<=1000000:=v5 b3;have c4:args.length<=fn.ntmps:=v5 hc.2;refine calls_of_wp hf hb ?_;have b2:Rel P w (g0 w.heap.size prot) w.heap.size (start args) { tmps:=vs++Array.replicate (fn.ntmps - vs.size) undef,defers:= [] }:=by
    refine⟨fun i=>?_,fun id cs ds hl=>(by cases hl),fun b hb=>⟨a8 b hb,rfl⟩,g8 _,⟨rfl,by simp only[A9,Array.size_replicate];have:=Z.1;omega⟩,⟨⟨rfl,rfl⟩,fun b hb=>⟨rfl,rfl,rfl,hb⟩,fun t x hx=>by cases hx⟩,fun b t _ ho=>by cases ho⟩;show VT P w (g0 w.heap.size prot) w.heap.size (cY i (ox 0 args)) _;rw[ub,j8 (y5 _),Nat.sub_zero];cases ht:args[i]? with
    | none=>trivial
    | some t =>
     obtain⟨u,hu,c0⟩:=Z.2 i t ht;have hi:i<vs.size:=(t7.1 hu).1;have:(vs++Array.replicate (fn.ntmps - vs.size) undef).getD i undef=u:=by rw[y3,r9 hi,hu];rfl
     rw[this];exact c0
   have hn:(vs++Array.replicate (fn.ntmps - vs.size) undef).size=fn.ntmps:=by have:=Z.1;simp;omega
   have a6:∀(a':Act) (w':World) (O:St) (g':G) (U:Option Dom),bV (EP fn a0 O)=some (U,some (1,p))->Rel P w' g' w.heap.size O a'->Below w.heap.size w w'->a'.defers = []/\∃v,(results fn a'.tmps).run P w'=.ok v w'/\∃(b:Nat) (Y:Nat->Nat),Ending.returned v=.returned (.pointer (some ⟨b,0,none⟩))/\Below w.heap.size w w'/\w.heap.size<=b/\(∀k,k<w.heap.size->Y k=prot k)/\Y b=0/\(∀k,w'.heap.size<=k->Y k=0) /\
     ∃a1 E,w'.heap[b]?=some (.cells a1 E (0,0))/\a1.size=a0.length/\∀(j:Nat) s,a0[j]?=some (.d s)->∃u,a1[j]?=some u/\VD P w' Y s (p j) u:=by
    intro a' w' O g' U h1 h2 h3;obtain⟨p',V,k2⟩:=lx h1;injection k2 with _ k2
    subst k2;unfold EP at V
    split at V
    ·rename_i t a4
     split at V
     ·rename_i id hsh
      split at V
      ·rename_i a5 ds hl;cases a2:(a5==a0) with
       | false=>rw[a2] at V;cases V
       | true =>
        rw[a2,f8] at V;injection V with V
        have a2:a5=a0:=by simpa using a2
        subst a2;subst V;obtain⟨q1,q2,q3,q4,a1,E,q5,q6,q7⟩:=h2.box id a5 ds hl;have hv:=h2.env t;have hv:a'.tmps.getD t undef=.pointer (some ⟨g'.θ id,0,none⟩):=by generalize bZ t O.e O.r=q at *;obtain⟨sh,pp⟩:=q;simp only at hsh;subst hsh;exact hv
        refine⟨h2.defers.1,.pointer (some ⟨g'.θ id,0,none⟩),?_,g'.θ id,g'.prot,rfl,h3,q1,fun k hk=>(h2.low.2.1 k (by rw[h2.low.1.1];exact hk)).2.1,q3,fun k hk=>(h2.fresh k hk).1,a1,E,q5,q6,fun j s hs=>?_⟩
        ·have a4:fn.results = #[.tmp t]:=by cases c3:fn.results;simp_all
         unfold results;rw[a4];have b5:a'.tmps[t]?.getD undef=.pointer (some ⟨g'.θ id,0,none⟩):=by rw[<- y3];exact hv
         simp[j7,m8,b5]
        ·have b4:=(g5.1 hs).1;obtain⟨u,u1,u2⟩:=q7 j _ hs;exact⟨u,u1,by rw[fq _ _ _ _ b4,i9];exact u2⟩
      ·cases V
     ·cases V
    ·cases V
   exact FI b0 c (start args) _ _ _ key (1,p) w (g0 w.heap.size prot) _ _ hc.1 h b2 hn (Below.refl _ _)
    ⟨fun O w' g' a' U h1 h2 h3 h4=>a6 a' w' O g' U h1 h2 h4,fun j O w' g' a' U h1=>(by cases h1),fun O w' g' a' U h1 h2 h3 h4=>a6 a' w' O g' U h1 h2 h4⟩
 ·cases h
def Kd:List Ce->List S->List S
 | .any::cs,_::az=>.opq::Kd cs az
 | _::cs,a::az=>a::Kd cs az
 | _,_ => []
def OO:List Ce->List Ce
 | [] => []
 | .any::cs=>.d .opq::OO cs
 | c::cs=>c::OO cs
def tJ:List Ce->Nat->b8->(Nat->Value)->b8
 | [],_,_,_ => []
 | .any::cs,k,p,zs=>.v (zs k)::tJ cs (k+1) p.tail zs
 | _::cs,k,p,zs=>p 0::tJ cs (k+1) p.tail zs
theorem Wo:∀(cs:List Ce) (j:Nat) c,cs[j]?=some c->(OO cs)[j]?=some (bif c==.any then .d .opq else c)
 | [],j,c,h=>by simp at h
 | c0::cs,0,c,h=>by
  have:c0=c:=by simpa using h
  subst this;cases c0 <;> rfl
 | c0::cs,j+1,c,h=>by have:=Wo cs j c (by simpa using h);cases c0 <;> simpa [OO] using this
theorem VK:∀(cs:List Ce),(OO cs).length=cs.length
 | []=>rfl
 | c::cs=>by have:=VK cs;cases c <;> simp[OO,this]
theorem Km(J:Nat->Value):∀(cs:List Ce) (k:Nat) (p:b8) (j:Nat) c,cs[j]?=some c->tJ cs k p J j=bif c==.any then .v (J (k+j)) else p j
 | [],k,p,j,c,h=>by simp at h
 | c0::cs,k,p,0,c,h=>by
  have:c0=c:=by simpa using h
  subst this;cases c0 <;> rfl
 | c0::cs,k,p,j+1,c,h=>by have:=Km J cs (k+1) p.tail j c (by simpa using h);rw[dG,show k+1+j=k+(j+1) from by omega] at this;rw[<- this];cases c0 <;> rfl
theorem Xf:∀(cs:List Ce) (az:List S),az.length=cs.length->(Kd cs az).length=cs.length/\∀(j:Nat) s,(Kd cs az)[j]?=some s->∃c a,cs[j]?=some c/\az[j]?=some a/\s=bif c==.any then .opq else a
 | [],[],_=>⟨rfl,fun j s h=>by simp[Kd] at h⟩
 | [],_::_,h=>by simp at h
 | _::_,[],h=>by simp at h
 | c::cs,a::az,h=>by
  obtain⟨O,U⟩:=Xf cs az (by simpa using h);have e:Kd (c::cs) (a::az)=(bif c==.any then .opq else a)::Kd cs az:=by cases c <;> rfl
  rw[e];refine⟨by simp[O],fun j s J=>?_⟩;cases j with
  | zero=>exact⟨c,a,rfl,rfl,by simpa using J.symm⟩
  | succ j =>obtain⟨c1,V,h1,Y,Z⟩:=U j s (by simpa using J);exact⟨c1,V,by simpa using h1,by simpa using Y,Z⟩
theorem aQ.ofT{P:Program}{f:FuncId}{cs:List Ce}{az:List S}{p q:b8}{rest:List T}(a1:az.length=cs.length)(a8:cs.all Ce.thr=true)
  (H:∀zs:Nat->Value,aQ P f (⟨.one (.agg ((Kd cs az).map .d)),tJ cs 0 p zs⟩::rest) ⟨.one (.agg (OO cs)),tJ cs 0 q zs⟩) :
  aQ P f (⟨.one (.agg (az.map .d)),p⟩::rest) ⟨.tup [.agg (.kb false::.any::.any::.any::cs)],q⟩:=by
 have b3:=((H fun _=>undef).n rfl).1;refine aQ.ofN rfl ⟨b3,⟨fun U J=>?_,fun U J w prot vs Y a4=>?_⟩⟩
 ·injection J with J;injection J with J _;injection J with J;injection J with J _;cases J
 have a5:U=cs:=by
  injection J with J
  injection J with J _
  injection J with J
  injection J with _ J
  injection J with _ J
  injection J with _ J
  injection J with _ J
  exact J.symm
 subst a5;obtain⟨u,hu,b4⟩:=Y.2 0 _ rfl;obtain⟨O,rfl,a2,b0⟩:∃O,u=.agg O/\VCs P w (g0 w.heap.size prot) w.heap.size (az.map .d) p O:=b4;have a3:ka P prot w (⟨.one (.agg ((Kd U az).map .d)),tJ U 0 p fun j=>(O[j]?).getD undef⟩::rest) vs:=by
  refine⟨Y.1,fun j t hj=>?_⟩;cases j with
  | succ j=>exact Y.2 (j+1) t (by simpa using hj)
  | zero =>
   have:t=_:=(by simpa using hj:_=t).symm;subst this;refine⟨_,hu,O,rfl,?_⟩;obtain⟨k1,k2⟩:=Xf U az a1;refine⟨by rw[a2];simp[k1,a1],fun j c V=>?_⟩;rw[u6] at V;cases hs:(Kd U az)[j]? with
   | none=>rw[hs] at V;cases V
   | some s =>
    rw[hs] at V;injection V with V
    subst V;obtain⟨c0,a0,m1,m2,m3⟩:=k2 j s hs;obtain⟨v,n1,Z⟩:=b0 j (.d a0) (by rw[u6,m2];rfl);refine⟨v,n1,?_⟩;rw[Km _ _ _ _ _ _ m1,m3];cases b5:(c0==Ce.any) with
    | false=>exact Z
    | true =>
     have hz:(O[0+j]?).getD undef=v:=by rw[i9,n1];rfl
     show VD P w prot .opq (.v ((O[0+j]?).getD undef)) v;rw[hz];exact VD.opq (.v v) (VD.flat Z)
 refine (((H fun j=>(O[j]?).getD undef).n rfl).2 w prot vs a3 a4).mono ?_;rintro e w' ⟨v,g',rfl,hR⟩;obtain⟨us,rfl,a7,b2⟩:∃us,v=.agg us/\VCs P w' g' w.heap.size (OO U) (tJ U 0 q fun j=>(O[j]?).getD undef) us:=hR.val;refine⟨us,g'.prot,rfl,hR.below,hR.prot,fun k hk=>(hR.fresh k hk).1,by rw[a7,VK],fun j c V=>?_⟩;obtain⟨u,n1,Z⟩:=b2 j _ (Wo U j c V);refine⟨u,n1,?_⟩;rw[Km _ _ _ _ _ _ V] at Z;have a6:=i6.1 a8 c (w6 V);cases c with
 | any =>
  refine .inr ⟨rfl,O,hu,?_⟩;have Z:VD P w' g'.prot .opq (.v ((O[0+j]?).getD undef)) u:=Z;have b1:j<O.size:=by have:=(g5.1 V).1;rw[a2];simp;omega
  generalize hx:D.v ((O[0+j]?).getD undef)=x at Z;cases Z;subst hx;show O[j]?=some ((O[0+j]?).getD undef);rw[i9,n3 b1];rfl
 | d s=>exact .inl ⟨s,rfl,Z⟩
 | _=>simp[Ce.thr,Ce.isD] at a6
theorem RK(x:Sh1):x.ces.length=x.size:=by cases x <;> rfl
theorem abO:∀ {xs:List Sh1} {j i:Nat} {z:Sh1},xs[j]?=some z->i<z.size->rD xs j+i<(xs.flatMap Sh1.ces).length
 | [],j,i,z,h,_=>by simp at h
 | x::xs,0,i,z,h,hi=>by simp only[n5,b7] at h;subst h;simp only[rD,List.take_zero,List.foldr_nil,F2,i5,RK];omega
 | x::xs,j+1,i,z,h,hi=>by have:=abO (xs:=xs) (j:=j) (by simpa using h) hi;simp only[rD,E4,N2,F2,i5,RK] at this ⊢;omega
section
variable [Low] {P:Program} {w w':World} {g g':G} {base:Nat} {σ:St} {a:Act}
theorem Yq(hr:Rel P w g base σ a){fn:Func}{cs2:List Ce}{res:List Sh1}{p:b8}(h:hY P fn (.tup (.agg [.any]::.agg cs2::res)) σ=some p) :
  ∃v g',(results fn a.tmps).run P w=.ok v w/\g'.old=g.old/\(∀k,g.owner k=none->g'.prot k=g.prot k/\g'.owner k=none)/\(∀b,w.heap.size<=b->g'.prot b=0/\g'.owner b=none) /\
   (g'.prot (g.θ 1000000)=0/\∀t,g'.owner (g.θ 1000000)≠some (.inr t))/\(∃U E,w.heap[g.θ 1000000]?=some (.cells U E (0,0))/\VCs P w g' base cs2 (sub p 1 cs2.length) U) /\
   VT P w g' base ⟨NX res,sub p (1+cs2.length) (res.flatMap Sh1.ces).length⟩ v:=by
 unfold hY at h
 split at h
 ·rename_i c8 c7 cs ds a8 p0 he a5 a4;simp only[Sh.tup.injEq,N4,Sh1.agg.injEq,true_and] at he;obtain⟨rfl,rfl⟩:=he;generalize c5:(Sh1.agg (cs.map qv)::a8)=xs at h;generalize c9:ZI (dU xs) (dU (.agg cs2::res))=ts at h;generalize b0:dv (dU xs) (dU (.agg cs2::res))=pairs at h;cases hc:(fit (xs.map (Sh1.map (eO ts))) (.agg cs2::res)&&cj (pairs.map (·.1))&&cj (pairs.map (·.2))) with
  | false=>rw[hc] at h;cases h
  | true =>
   rw[hc,f8] at h;injection h with h
   subst h;simp only[a9] at hc;obtain⟨⟨c1,c2⟩,c3⟩:=hc;obtain⟨b1,b2,b3,b4,U,E,b5,b6⟩:=hr.box _ _ _ a5;obtain⟨J,k1,k2⟩:=xM hr a4;have a1:=Br cs ds 0;have c4:VL P w g base xs (iU cs ds 0++p0) (.agg U::J):=by
    rw[<- c5];refine⟨na (p:=iU cs ds 0) (fun j O=>(xe ?_).symm) ⟨U,rfl,MH b6⟩,?_⟩
    ·rw[a1];simpa [Sh1.size] using O
    ·rw[show (Sh1.agg (cs.map qv)).size=(iU cs ds 0).length from by rw[a1];simp[Sh1.size],List.drop_left];exact k2
   have k3:=ZF c2 c3 c1 (fun q hq=>by rw[<- b0];exact hq) (Sw (ym g ts w) c4);have hs:=hr.seal ts;obtain⟨a6,c0⟩:=k3;obtain⟨c6,e9,a2⟩:=a6;injection e9 with e9
   subst e9;obtain⟨q1,q2⟩:=Yv c0;have a3:(results fn a.tmps).run P w=.ok (if h:J.toArray.size=1 then J.toArray[0] else .tuple J.toArray) w:=by
    have e:results fn a.tmps=(do let J <- fn.results.mapM (Bn a.tmps);pure (if h:J.size=1 then J[0] else .tuple J)):=by
     unfold results
     congr 1
    rw[e,K4];simp only[j7,Sem.run_map,k1,g7,m8]
   have V:∀k,g.owner k=none->(Hq (bB g ts) pairs).prot k=g.prot k/\(Hq (bB g ts) pairs).owner k=none:=fun k hk=>by refine⟨FT hk,?_⟩;show (match (bB g ts).owner k with | some (Sum.inr t)=>(fwd pairs t).map Sum.inr | _=>none)=none;rw[show (bB g ts).owner k=none from hk]
   refine⟨_,Hq (bB g ts) pairs,a3,rfl,V,fun b hb=>?_,⟨?_,fun t=>?_⟩,⟨U,E,b5,?_⟩,?_⟩
   ·obtain⟨z1,z2⟩:=hr.fresh b hb;obtain⟨y1,y2⟩:=V b z2;exact⟨y1.trans z1,y2⟩
   ·show (bB g ts).prot _=0;rw[Es b2];exact b3
   ·show (match (bB g ts).owner (g.θ 1000000) with | some (Sum.inr t)=>(fwd pairs t).map Sum.inr | _=>none)≠_;rw[show (bB g ts).owner (g.θ 1000000)=some (.inl 1000000) from b2];simp
   ·refine⟨a2.1,fun j c O=>?_⟩;obtain⟨u,Y,hv⟩:=a2.2 j c O;refine⟨u,Y,?_⟩;rw[fq _ _ _ _ (g5.1 O).1,show 1+j=j+1 from by omega,aJ];exact hv
   ·have a0:∀i j n,i+j<n->sub (D0::(iU cs ds 0++p0)) (1+cs2.length) n (i+j)=((iU cs ds 0++p0).drop (Sh1.agg cs2).size) (i+j):=fun i j n h=>by rw[fq _ _ _ _ h,show 1+cs2.length+(i+j)=(cs2.length+(i+j))+1 from by omega,aJ,JO];rfl
    cases res with
    | nil =>have hl:J = []:=t6 (by rw[q1];rfl);subst hl;exact⟨#[],rfl,rfl,fun j x O=>by simp at O⟩
    | cons x rest=>cases rest with
     | nil =>
      have hl:J.length=1:=by rw[q1];rfl
      obtain⟨u,Y,Z⟩:=q2 0 x rfl;rw[dif_pos (by simpa using hl)];have:J.toArray[0]'(by simp[hl])=u:=by have:=Y;rw[g6 (by omega)] at this;simpa using this
      rw[this];refine na (fun j O=>?_) Z;rw[fq _ _ _ _ O];have:=a0 0 j ([x].flatMap Sh1.ces).length (by simp[RK];exact O);simp only[i9] at this;rw[show rD [x] 0+j=j from by simp[rD]];exact this.symm
     | cons y ys =>
      have a7:¬J.toArray.size=1:=by simp only[z6,q1,C2];omega
      rw[dif_neg a7];refine⟨J.toArray,rfl,by simp[q1],fun j z O=>?_⟩;obtain⟨u,Y,Z⟩:=q2 j z O;refine⟨u,by simpa using Y,na (fun i hi=>?_) Z⟩;rw[fq _ _ _ _ hi,fq _ _ _ _ hi];exact (a0 _ _ _ (abO O hi)).symm
 ·cases h
end
theorem gu{P:Program}{call:FuncId->List T->Option (T × Bool)}(a6:av P call){N:Nat}{ks:List Nat}{f:FuncId}{fn:Func}{rs:Sh}{V:List Ce}{Z:b8}{rest:List T}{key:Option Dom}{p:b8}
  (b4:∀U w,(callFunc f U).run P w=.ok (.enter f U) w) (hf:P.funcs[f]?=some fn) (h:WT P ⟨.one (.agg V),Z⟩->(∀t∈rest,WT P t)->vh P call N ks fn rs (⟨.tup [.agg V],Z⟩::rest)=some (key,some (1,p))) (a7:rs.isP=true:=by rfl):aQ P f (⟨.tup [.agg V],Z⟩::rest) ⟨rs,p⟩:=by
 refine aQ.ofP a7 ⟨b4,fun c3 c4 c2 cs2 res a1 a4 w g b U J=>?_⟩;simp only[N4,T.mk.injEq,Sh.tup.injEq,Sh1.agg.injEq,C6] at a1;obtain⟨⟨rfl,rfl⟩,rfl⟩:=a1;have a4:rs=.tup (.agg [.any]::.agg cs2::res):=a4;subst a4;obtain⟨b3,E,c0,a5⟩:=J.cells
 replace h:=h (fun j c hj=>by obtain⟨u,_,hv⟩:=a5.2 j c hj;exact afu hv) fun t ht=>by obtain⟨j,hj⟩:=E7 ht;obtain⟨u,_,h⟩:=J.args j t hj;exact afW h
 letI:Low:=⟨g.prot,fun k=>w.heap[k]?,g.old,fun _=>none,b,fun _ _ _ _=>True⟩
 unfold vh at h
 split at h
 ·rename_i c c6 c5 c1 hb he;simp only[N4,T.mk.injEq,Sh.tup.injEq,Sh1.agg.injEq,C6] at he;obtain⟨⟨rfl,rfl⟩,rfl⟩:=he;cases hc:(gY fn.ntmps c&&Nat.ble (⟨.tup [.agg V],Z⟩::rest:List T).length fn.ntmps&&Nat.ble fn.ntmps 1000000) with
  | false=>rw[hc] at h;cases h
  | true =>
   rw[hc,f8] at h;simp only[a9] at hc;obtain⟨hc,b0⟩:=hc;have b2:fn.ntmps<=1000000:=v5 b0;have c7:rest.length+1<=fn.ntmps:=v5 hc.2;refine calls_of_wp hf hb ?_;have a3:(#[Value.pointer (some ⟨b,0,none⟩)]++U).size=rest.length+1:=by simp[J.size];omega
   have hn:(#[Value.pointer (some ⟨b,0,none⟩)]++U++Array.replicate (fn.ntmps - (#[Value.pointer (some ⟨b,0,none⟩)]++U).size) undef).size=fn.ntmps:=by rw[A9,a3];simp;omega
   have a8:Rel P w g 0 (EW V Z rest) { tmps:= #[Value.pointer (some ⟨b,0,none⟩)]++U++Array.replicate (fn.ntmps - (#[Value.pointer (some ⟨b,0,none⟩)]++U).size) undef,defers:= [] }:=by
    refine⟨fun i=>?_,fun id cs ds hl=>?_,J.fresh,y5 _,⟨rfl,by show Array.size _<=_;rw[hn];exact b2⟩,⟨⟨rfl,J.box⟩,fun k hk=>⟨(J.old k hk).1,rfl,rfl,(J.old k hk).2⟩,fun t x hx=>by cases hx⟩,fun _ _ _ _=>trivial⟩
    ·show VT P w g 0 (cY i (ox 0 (.c (.ptr 1000000 0) D0::rest))) _;rw[ub,j8 (y5 _),Nat.sub_zero];cases i with
     | zero =>
      have:(#[Value.pointer (some ⟨b,0,none⟩)]++U++Array.replicate (fn.ntmps - (#[Value.pointer (some ⟨b,0,none⟩)]++U).size) undef).getD 0 undef=.pointer (some ⟨b,0,none⟩):=by rw[y3,r9 (by rw[a3];omega),r9 (by simp)];rfl
      rw[this];show _=Value.pointer (some ⟨g.θ 1000000,0,none⟩);rw[J.box]
     | succ i =>
      simp only[I5];cases ht:rest[i]? with
      | none=>trivial
      | some t =>
       obtain⟨u,hu,b6⟩:=J.args i t ht;have hi:i<U.size:=(t7.1 hu).1;have:(#[Value.pointer (some ⟨b,0,none⟩)]++U++Array.replicate (fn.ntmps - (#[Value.pointer (some ⟨b,0,none⟩)]++U).size) undef).getD (i+1) undef=u:=by rw[y3,r9 (by rw[a3,<- J.size];omega),A4 (by simp)];simp[hu]
       rw[this];exact b6
    ·have hl:(bif id==1000000 then some (V,sub Z 0 V.length) else none)=some (cs,ds):=hl;cases a0:(id==1000000) with
     | false=>rw[a0] at hl;cases hl
     | true =>
      rw[a0,f8] at hl;have a0:id=1000000:=by simpa using a0
      subst a0;injection hl with hl
      injection hl with l1 l2
      subst l1;subst l2;refine⟨y5 _,by rw[J.box];exact J.owner,by rw[J.box];exact J.prot,eH _ _ _,b3,E,by rw[J.box];exact c0,a5.1,fun j c hj=>?_⟩;obtain⟨u,hu,hv⟩:=a5.2 j c hj;exact⟨u,hu,by rw[fq _ _ _ _ (g5.1 hj).1,i9];exact hv⟩
   have a2:∀(a':Act) (w':World) (Y:St) (g':G) (O:Option Dom),bV (hY P fn (.tup (.agg [.any]::.agg cs2::res)) Y)=some (O,some (1,p))->Rel P w' g' 0 Y a'->Below 0 w w'->a'.defers = []/\∃v,(results fn a'.tmps).run P w'=.ok v w'/\∃v' g',Ending.returned v=.returned v'/\amM P w w' g g' b cs2 res p v':=by
    intro a' w' Y g' O h1 h2 h3;obtain⟨p',k1,k2⟩:=lx h1;injection k2 with _ k2
    subst k2;obtain⟨v,g2,q1,q2,q3,q4,q5,q6,q7⟩:=Yq h2 k1;have b5:g'.θ 1000000=b:=h2.low.1.2;rw[b5] at q5 q6;refine⟨h2.defers.1,v,q1,v,g2,rfl,h3.os,h3.tape,h3.output,h3.size,fun k hk=>?_,q4,q5,q6,q7⟩;have b1:g'.old k:=by rw[h2.low.1.1];exact hk
    obtain⟨z1,z2,z3,z4⟩:=h2.low.2.1 k b1;obtain⟨y1,y2⟩:=q3 k z1;exact⟨z3,y1.trans z2,y2⟩
   exact FI a6 c (EW V Z rest) _ _ _ key (1,p) w g _ _ hc.1 h a8 hn (Below.refl _ _)
    ⟨fun Y w' g' a' O h1 h2 h3 h4=>a2 a' w' Y g' O h1 h2 h4,fun j Y w' g' a' O h1=>(by cases h1),fun Y w' g' a' O h1 h2 h3 h4=>a2 a' w' Y g' O h1 h2 h4⟩
 ·cases h
theorem TR.wd{P:Program}{w:World}{lab:Nat->List (Nat × Nat)->Nat->Prop}{π:List (Nat × Nat)}{s:S}{x:D}{v:Value}(h:TR P w lab π s x v):WD P s x:=by
 induction h with
 | int π k d=>exact .int k d
 | bool π d=>exact .bool d
 | str π d=>exact .str d
 | nil π e d A J h =>obtain⟨row,J⟩:=B6.1 J;exact .sl e d row J (by rw[h];simp) (fun i j s hi=>by rw[h] at hi;simp at hi)
 | sl π e d b cap row V u J h1 O Y h4 h5 Z h7 U=>exact .sl e d row J (o8 h1 O) U
open Classical in
def LR(ex:Nat->Option (Nat × b8)):Nat->Nat->Option (Nat × b8)
 | _,0=>none
 | k,m+1=>match ex k with
  | some o=>some o
  | none=>LR ex (k+1) m
theorem FJ{step:b8->Out}(st:Nat->b8)(ex:Nat->Option (Nat × b8))(fin:Nat × b8){n:Nat}
  (h1:∀k,k<n->step (st k)=some ((ex k).getD (0,st (k+1)))) (O:∀k o,ex k=some o->o.1≠0) (V:step (st n)=some fin) (U:fin.1≠0) :
  ∀(m k N:Nat),k+m=n->m<N->ba step N (st k)=some ((LR ex k m).getD fin):=by
 intro m
 induction m with
 | zero =>
  intro k N hk hN;obtain⟨N,rfl⟩:∃J,N=J+1:=⟨N - 1,by omega⟩;obtain rfl:k=n:=by omega
  obtain⟨c,pay⟩:=fin;rw[ba,V];cases c with
  | zero=>exact absurd rfl U
  | succ c=>rfl
 | succ m Y =>
  intro k N hk hN;obtain⟨N,rfl⟩:∃J,N=J+1:=⟨N - 1,by omega⟩;rw[ba,h1 k (by omega),LR];cases Z:ex k with
  | none=>simp only[Option.getD_none];exact Y (k+1) N (by omega) (by omega)
  | some o =>
   obtain⟨c,pay⟩:=o;have:=O k _ Z;cases c with
   | zero=>exact absurd rfl this
   | succ c=>rfl
theorem cN{P:Program}{f:FuncId}{fn:Func}(U:P.funcs[f]?=some fn)(J:(fn.name == "runtime.NumGoroutine")=false:=by kernel_rfl)(V:fn.body.isNone=false:=by kernel_rfl)(O:Array Value)(w:World):(callFunc f O).run P w=.ok (.enter f O) w:=by unfold callFunc;simp only[j7,run_program,g7,U,J,V,u4,if_false,m8]
theorem aq{P:Program}{call:FuncId->List T->Option (T × Bool)}(J:av P call){N:Nat}{ks:List Nat}{f:FuncId}{fn:Func}{rs:Sh}{args:List T}{p:b8}
  (U:P.funcs[f]?=some fn) (h:(∀t∈args,WT P t)->aZ P call N ks fn rs args=some (none,some (1,p))) (h1:(fn.name == "runtime.NumGoroutine")=false:=by kernel_rfl) (V:fn.body.isNone=false:=by kernel_rfl) (O:rs.isW=false:=by rfl):aQ P f args ⟨rs,p⟩:=ZQ J (cN U h1 V) U h O
theorem fC{J:Type}{p:J->Prop}{a:J}{l:List J}(h:p a/\∀x∈l,p x):∀x∈a::l,p x:=List.forall_mem_cons.2 h
theorem fN{J:Type}{p:J->Prop}:∀x∈([]:List J),p x:=List.forall_mem_nil p
abbrev Ent:=FuncId × (List T->Option (T × Bool))
def find:List Ent->FuncId->List T->Option (T × Bool)
 | [],_,_=>none
 | e::r,f,args=>bif Nat.beq e.1 f then e.2 args else find r f args
def aw(P:Program)(e:Ent):Prop:=∀args r,e.2 args=some (r,true)->aQ P e.1 args r
theorem ap{P:Program}:∀ {l:List Ent},(∀e∈l,aw P e)->av P (find l)
 | [],_,f,args,r,h=>by cases h
 | e::l,hl,f,args,r,h=>by
  unfold find at h;cases J:Nat.beq e.1 f with
  | false =>rw[J,f5] at h;exact ap (fun U O=>hl U (by simp[O])) f args r h
  | true =>rw[J,f8] at h;obtain rfl:=Nat.eq_of_beq_eq_true J;exact hl e (by simp) args r h
def e1(s:Sh)(F:b8->T × Bool):List T->Option (T × Bool)
 | [v]=>bif v.sh==s then some (F v.p) else none
 | _=>none
def e2(s s':Sh)(F:b8->b8->T × Bool):List T->Option (T × Bool)
 | [v,u]=>bif v.sh==s&&u.sh==s' then some (F v.p u.p) else none
 | _=>none
theorem ck{P:Program}{f:FuncId}{s:Sh}{F:b8->T × Bool}(h:∀p,(F p).2=true->aQ P f [⟨s,p⟩] (F p).1):aw P (f,e1 s F):=by
 intro args r J
 match args,J with
 | [],J=>cases J
 | [⟨sh,p⟩],J =>
  have O:(bif sh==s then some (F p) else none)=some (r,true):=J;cases U:(sh==s) with
  | false=>rw[U] at O;cases O
  | true =>
   rw[U] at O;simp only[f8,b7] at O;have e:sh=s:=by simpa using U
   subst e;have:=h p;rw[O] at this;exact this rfl
 | _::_::_,J=>cases J
theorem bj{P:Program}{f:FuncId}{s s':Sh}{F:b8->b8->T × Bool}(h:∀p q,(F p q).2=true->aQ P f [⟨s,p⟩,⟨s',q⟩] (F p q).1):aw P (f,e2 s s' F):=by
 intro args r J
 match args,J with
 | [],J=>cases J
 | [_],J=>cases J
 | [⟨sh,p⟩,⟨sh',q⟩],J =>
  have O:(bif sh==s&&sh'==s' then some (F p q) else none)=some (r,true):=J;cases U:(sh==s&&sh'==s') with
  | false=>rw[U] at O;cases O
  | true =>rw[U] at O;simp only[f8,b7] at O;simp only[a9,p6] at U;obtain⟨rfl,rfl⟩:=U;have:=h p q;rw[O] at this;exact this rfl
 | _::_::_::_,J=>cases J
abbrev bo:Option Dom:=none
abbrev sd(s:S):Sh:=.one (.c (.d s))
abbrev si:S:=.int .i64
abbrev rb:Sh:=sd .bool
abbrev ri:Sh:=sd si
abbrev ag(l:List S):Sh:=.one (.agg (l.map .d))
abbrev ob(x:Bool):Out:=some (1,[.b x])
abbrev oi(x:Int):Out:=some (1,[.i x])
abbrev ex(j:Nat)(p:b8):Out:=some (j+2,p)
abbrev nx(p:b8):Out:=some (0,p)
def nd(c:Bool)(o:Out):Out:=bif c then o else none
abbrev w64(x:Int):Int:=IntKind.i64.wrap x
theorem br{x:Int}(h : -9223372036854775808<=x)(J:x<=9223372036854775807):w64 x=x:=by simp only[w64,IntKind.wrap,IntKind.signed,IntKind.bits];simp;omega
theorem bP{k len:Nat}(h:k<len):al (k:Int) len=true:=by simp only[al,a9,f7];omega
def xK(E:b8->b8->Bool)(z u:D):Bool:=(z.rows.length==u.rows.length)&&(List.range z.rows.length).all fun k=>E (z.rows.getD k []) (u.rows.getD k [])
theorem Fm{ex:Nat->Option (Nat × b8)}{o:Nat × b8}{C:Nat->Bool}(h:∀k,ex k=if C k then none else some o):∀(m k:Nat),LR ex k m=if (List.range m).all (fun j=>C (k+j)) then none else some o
 | 0,k=>by simp[LR]
 | m+1,k=>by
  rw[LR,h];by_cases J:C k=true
  ·rw[j8 J];simp only;rw[Fm h m (k+1),L7,M6,List.all_map];simp only[D4,J,s8]
   congr 2
   congr 1
   funext j;simp only[Function.comp]
   congr 1
   omega
  ·rw[i7 J];simp[L7,J]
theorem adc{L:b8->Out}{z u x y:D}{E:b8->b8->Bool}(U:z.rows.length<=9223372036854775807)(O:z.rows.length=u.rows.length)
  (J:∀k:Int,L [z,u,x,y,.i k]=bif decide (k<z.rows.length) then nd (al k z.rows.length) (nd (al k u.rows.length) (bif !E (z.rows.getD k.toNat []) (u.rows.getD k.toNat []) then ob false else nx [z,u,x,y,.i (w64 (k+1))])) else ex 0 [z,u,x,y,.i k])
  {N:Nat} (hN:z.rows.length<N):ba L N [z,u,x,y,.i 0]=some (if xK E z u then (2,[z,u,x,y,.i z.rows.length]) else (1,[.b false])):=by
 have:=FJ (step:=L) (fun k => [z,u,x,y,.i (k:Int)]) (fun k=>if E (z k) (u k) then none else some (1,[.b false])) (2,[z,u,x,y,.i z.rows.length]) (n:=z.rows.length) (fun k hk=>?_) (fun k o h=>?_) ?_ (by simp) z.rows.length 0 N (by omega) hN
 ·simp only[g9] at this;rw[this,Fm (o:=(1,[.b false])) (C:=fun k=>E (z k) (u k)) (fun k=>rfl)];simp only[i9,xK,<- O,n8,s8]
  split <;> rfl
 ·show L [z,u,x,y,.i (k:Int)]=_;rw[J,show decide ((k:Int)<z.rows.length)=true from by simpa using hk,f8,bP hk,bP (by omega),show ((k:Int)).toNat=k from rfl,br (by omega) (by omega)];cases E (z k) (u k) <;> rfl
 ·split at h
  ·cases h
  ·injection h with h;rw[<- h];simp
 ·show L [z,u,x,y,.i (z:Int)]=_;rw[J,show decide ((z:Int)<z.rows.length)=false from by simp,f5]
def left(s:Nat)(n:Int):Int:=if (s:Int)<=n then n - s else -1
theorem CM{L:b8->Out}(st:Nat->b8)(n:Nat)(C:Nat->Bool)(v fin:b8)(j:Nat)(h1:∀k,k<n->L (st k)=some (bif C k then (0,st (k+1)) else (1,v)))(J:L (st n)=some (j+2,fin)){N:Nat}(hN:n<N) :
  ba L N (st 0)=some (bif (List.range n).all C then (j+2,fin) else (1,v)):=by
 have:=FJ (step:=L) st (fun k=>if C k then none else some (1,v)) (j+2,fin) (n:=n) (fun k hk=>?_) (fun k o h=>?_) J (by simp) n 0 N (by omega) hN
 ·rw[this,Fm (o:=(1,v)) (C:=C) (fun k=>rfl)];simp only[i9];have e:(fun j=>C j)=C:=rfl;rw[e];cases (List.range n).all C <;> rfl
 ·rw[h1 k hk];cases C k <;> rfl
 ·split at h
  ·cases h
  ·injection h with h;rw[<- h];simp
def e3(s s' J:Sh)(F:b8->b8->b8->T × Bool):List T->Option (T × Bool)
 | [v,u,t]=>bif v.sh==s&&(u.sh==s'&&t.sh==J) then some (F v.p u.p t.p) else none
 | _=>none
theorem em{P:Program}{f:FuncId}{s s' O:Sh}{F:b8->b8->b8->T × Bool}(h:∀p q r,(F p q r).2=true->aQ P f [⟨s,p⟩,⟨s',q⟩,⟨O,r⟩] (F p q r).1):aw P (f,e3 s s' O F):=by
 intro args r J
 match args,J with
 | [],J=>cases J
 | [_],J=>cases J
 | [_,_],J=>cases J
 | [⟨sh,p⟩,⟨sh',q⟩,⟨sh'',o⟩],J =>
  have U:(bif sh==s&&(sh'==s'&&sh''==O) then some (F p q o) else none)=some (r,true):=J;cases V:(sh==s&&(sh'==s'&&sh''==O)) with
  | false=>rw[V] at U;cases U
  | true =>rw[V] at U;simp only[f8,b7] at U;simp only[a9,p6] at V;obtain⟨rfl,rfl,rfl⟩:=V;have:=h p q o;rw[U] at this;exact this rfl
 | _::_::_::_::_,J=>cases J
set_option maxRecDepth 4096
theorem dY{P:Program}{e:TypeId}{p:b8}(h:WT P ⟨sd (.sl e),p⟩):(p 0).rows.length<=9223372036854775807:=by
 have h:WD P (.sl e) (p 0):=h;cases h with
 | sl _ _ row _ h _=>exact h
def AD:List S:= [si,si]
def ay:List S:= [si,si]
def JR:List S:= [si,si]
theorem Ua(c x:Bool):(bif c then ob x else ob false)=ob (c&&x):=by cases c <;> rfl
def inB(n a b:Int):Bool:=decide (n>=a)&&decide (n<=b)
theorem acO(p q r:b8)(N:Nat):aZ f4 (find []) N [0,1,2,6] Tryz.f154 (rb) [⟨ri,p⟩,⟨ri,q⟩,⟨ri,r⟩]=some (bo,bif decide ((p 0).int>=(q 0).int) then ob (decide ((p 0).int<=(r 0).int)) else ob false):=by kernel_rfl
def nS:Ent:=(154,e3 (ri) (ri) (ri) fun p q r=>(⟨rb,[.b (inB (p 0).int (q 0).int (r 0).int)]⟩,true))
theorem jS:aw f4 nS:=em fun p q r h=>aq (N:=0) (ks:= [0,1,2,6]) (ap (fN)) Tryz.func154 fun _=>by rw[acO];rw[Ua];rfl
theorem aeh(p q r:b8)(N:Nat):aZ f4 (find []) N [0,1,2,6] Tryz.f184 (rb) [⟨ri,p⟩,⟨ri,q⟩,⟨ri,r⟩]=some (bo,bif decide ((p 0).int>=(q 0).int) then ob (decide ((p 0).int<=(r 0).int)) else ob false):=by kernel_rfl
def og:Ent:=(184,e3 (ri) (ri) (ri) fun p q r=>(⟨rb,[.b (inB (p 0).int (q 0).int (r 0).int)]⟩,true))
theorem lN:aw f4 og:=em fun p q r h=>aq (N:=0) (ks:= [0,1,2,6]) (ap (fN)) Tryz.func184 fun _=>by rw[aeh];rw[Ua];rfl
theorem TN(p:b8)(N:Nat):aZ f4 (find [nS]) N [0,2] Tryz.f220 (rb) [⟨ri,p⟩]=some (bo,ob (inB (p 0).int (0) (1000000000))):=by kernel_rfl
def MF:Ent:=(220,e1 (ri) fun p=>(⟨rb,[.b (inB (p 0).int (0) (1000000000))]⟩,true))
theorem SH:aw f4 MF:=ck fun p h=>aq (N:=0) (ks:= [0,2]) (ap (fC ⟨jS,fN⟩)) Tryz.func220 fun _=>by
 rw[TN]
 skip
theorem OZ(p:b8)(N:Nat):aZ f4 (find [nS]) N [0,2] Tryz.f209 (rb) [⟨ri,p⟩]=some (bo,ob (inB (p 0).int (-1) (1000000000))):=by kernel_rfl
def wj:Ent:=(209,e1 (ri) fun p=>(⟨rb,[.b (inB (p 0).int (-1) (1000000000))]⟩,true))
theorem Pw:aw f4 wj:=ck fun p h=>aq (N:=0) (ks:= [0,2]) (ap (fC ⟨jS,fN⟩)) Tryz.func209 fun _=>by
 rw[OZ]
 skip
theorem XK(p:b8)(N:Nat):aZ f4 (find [nS]) N [0,2] Tryz.f208 (rb) [⟨ri,p⟩]=some (bo,ob (inB (p 0).int (0) (999))):=by kernel_rfl
def CT:Ent:=(208,e1 (ri) fun p=>(⟨rb,[.b (inB (p 0).int (0) (999))]⟩,true))
theorem Ms:aw f4 CT:=ck fun p h=>aq (N:=0) (ks:= [0,2]) (ap (fC ⟨jS,fN⟩)) Tryz.func208 fun _=>by
 rw[XK]
 skip
theorem RW(p:b8)(N:Nat):aZ f4 (find [nS]) N [0,2] Tryz.f149 (rb) [⟨ri,p⟩]=some (bo,ob (inB (p 0).int (0) (3))):=by kernel_rfl
def KE:Ent:=(149,e1 (ri) fun p=>(⟨rb,[.b (inB (p 0).int (0) (3))]⟩,true))
theorem SX:aw f4 KE:=ck fun p h=>aq (N:=0) (ks:= [0,2]) (ap (fC ⟨jS,fN⟩)) Tryz.func149 fun _=>by
 rw[RW]
 skip
theorem TD(p:b8)(N:Nat):aZ f4 (find [og]) N [0,2] Tryz.f218 (rb) [⟨ri,p⟩]=some (bo,ob (inB (p 0).int (0) (1000000000))):=by kernel_rfl
def Mn:Ent:=(218,e1 (ri) fun p=>(⟨rb,[.b (inB (p 0).int (0) (1000000000))]⟩,true))
theorem Sd:aw f4 Mn:=ck fun p h=>aq (N:=0) (ks:= [0,2]) (ap (fC ⟨lN,fN⟩)) Tryz.func218 fun _=>by
 rw[TD]
 skip
theorem Wr(p:b8)(N:Nat):aZ f4 (find [og]) N [0,2] Tryz.f201 (rb) [⟨ri,p⟩]=some (bo,ob (inB (p 0).int (0) (999))):=by kernel_rfl
def yj:Ent:=(201,e1 (ri) fun p=>(⟨rb,[.b (inB (p 0).int (0) (999))]⟩,true))
theorem HY:aw f4 yj:=ck fun p h=>aq (N:=0) (ks:= [0,2]) (ap (fC ⟨lN,fN⟩)) Tryz.func201 fun _=>by
 rw[Wr]
 skip
def ar(p:b8):Bool:=decide ((p 0).int>=0)&&(decide ((p 0).int<(p 1).int)&&decide ((p 1).int<=1000))
theorem SW(p:b8)(N:Nat):aZ f4 (find []) N [0,1,2] Tryz.f108 (rb) [⟨ag ay,p⟩]=some (bo,bif decide ((p 0).int>=0) then bif decide ((p 0).int<(p 1).int) then ob (decide ((p 1).int<=1000)) else ob false else ob false):=by kernel_rfl
def fQ:Ent:=(108,e1 (ag ay) fun p=>(⟨rb,[.b (ar p)]⟩,true))
theorem eV:aw f4 fQ:=ck fun p h=>aq (N:=0) (ks:= [0,1,2]) (ap (fN)) Tryz.func108 fun _=>by rw[SW];simp only[Ua];rfl
theorem SL(p:b8)(N:Nat):aZ f4 (find []) N [0,1,2] Tryz.f94 (rb) [⟨ag ay,p⟩]=some (bo,bif decide ((p 0).int>=0) then bif decide ((p 0).int<(p 1).int) then ob (decide ((p 1).int<=1000)) else ob false else ob false):=by kernel_rfl
def eI:Ent:=(94,e1 (ag ay) fun p=>(⟨rb,[.b (ar p)]⟩,true))
theorem dy:aw f4 eI:=ck fun p h=>aq (N:=0) (ks:= [0,1,2]) (ap (fN)) Tryz.func94 fun _=>by rw[SL];simp only[Ua];rfl
def fL(z:D)(k:Nat):Bool:=inB (z.rows.getD k [] 0).int 0 999&&(inB (z.rows.getD k [] 1).int (-1) 1000000000&&(k==0 || !decide ((z.rows.getD (k - 1) [] 0).int>=(z.rows.getD k [] 0).int)))
def aO(z:D):Bool:=decide ((z:Int)<=60)&&(List.range z.rows.length).all (fL z)
theorem abp{k:Nat}(h:k≠0)(J:k<=9223372036854775807):w64 ((k:Int) - 1)=((k - 1:Nat):Int):=by rw[br (by omega) (by omega)];omega
def swL(N:Nat)(p:b8):b8->Out:=bc f4 (find [og,yj]) N [0,2,3,6,10,46] Tryz.f93 rb [⟨sd (.sl 70),p⟩] 0
theorem akv(p:b8)(N:Nat)(z J y:D)(k:Int):swL N p [z,J,y,.i k] =
 bif decide (k<z.rows.length) then nd (al k z.rows.length) (bif !(inB (z.rows.getD k.toNat [] 0).int 0 999) then ob false else nd (al k z.rows.length) (bif !(inB (z.rows.getD k.toNat [] 1).int (-1) 1000000000) then ob false else
  bif decide (k > 0) then nd (al (w64 (k - 1)) z.rows.length) (nd (al k z.rows.length) (bif decide ((z.rows.getD (w64 (k - 1)).toNat [] 0).int>=(z.rows.getD k.toNat [] 0).int) then ob false else nx [z,J,y,.i (w64 (k+1))])) else nx [z,J,y,.i (w64 (k+1))])) else ex 0 [z,J,y,.i k]:=by kernel_rfl
theorem amy(p:b8)(N:Nat):aZ f4 (find [og,yj]) N [0,2,3,6,10,46] Tryz.f93 rb [⟨sd (.sl 70),p⟩]=some (bo,bif decide ((p 0:Int) > 60) then ob false else
  (let o:=ba (swL N p) N [p 0,D0,.b (decide ((p 0:Int) > 60)),.i 0]
  nd o.isSome (bif o.code==1 then some (1,o.pay) else nd (o.code==2) (ob true)))):=by kernel_rfl
def iwL(N:Nat)(p:b8):b8->Out:=bc f4 (find [CT,wj]) N [0,2,3,4,5,6,7,8,36] Tryz.f109 rb [⟨sd (.sl 70),p⟩] 0
theorem akr(p:b8)(N:Nat)(z O J:D)(n k:Int):iwL N p [z,O,J,.i n,.i k] =
  bif decide (k<n) then nd (al k J.rows.length)
   (bif !(inB (J.rows.getD k.toNat [] 0).int 0 999) then ob false else bif !(inB (J.rows.getD k.toNat [] 1).int (-1) 1000000000) then ob false else
   bif decide (k > 0) then nd (al (w64 (k - 1)) z.rows.length) (bif decide ((z.rows.getD (w64 (k - 1)).toNat [] 0).int>=(J.rows.getD k.toNat [] 0).int) then ob false else nx [z,O,J,.i n,.i (w64 (k+1))]) else nx [z,O,J,.i n,.i (w64 (k+1))])
  else ex 0 [z,O,J,.i n,.i k]:=by kernel_rfl
theorem amT(p:b8)(N:Nat):aZ f4 (find [CT,wj]) N [0,2,3,4,5,6,7,8,36] Tryz.f109 rb [⟨sd (.sl 70),p⟩]=some (bo,
  (let o:=ba (iwL N p) N [p 0,D0,p 0,.i (p 0).rows.length,.i 0]
  nd o.isSome (bif o.code==1 then some (1,o.pay) else nd (o.code==2) (ob (decide ((o.pay 0:Int)<=60)))))):=by kernel_rfl
def mB:Ent:=(93,e1 (sd (.sl 70)) fun p=>(⟨rb,[.b (aO (p 0))]⟩,true))
def mX:Ent:=(109,e1 (sd (.sl 70)) fun p=>(⟨rb,[.b (aO (p 0))]⟩,true))
theorem mm:aw f4 mB:=ck fun p _=>aq (N:=(p 0).rows.length+1) (ks:= [0,2,3,6,10,46]) (ap (fC ⟨lN,fC ⟨HY,fN⟩⟩)) Tryz.func93 fun hw=>by
 have U:=dY (hw ⟨sd (.sl 70),p⟩ (by simp));rw[amy];by_cases J:(p 0:Int)<=60
 ·have e:=CM (L:=swL ((p 0).rows.length+1) p) (fun k => [p 0,D0,.b (decide ((p 0:Int) > 60)),.i (k:Int)]) (p 0).rows.length (fL (p 0)) [.b false] [p 0,D0,.b (decide ((p 0:Int) > 60)),.i (p 0).rows.length] 0 (fun k hk=>?_) ?_ (I7 _)
  ·simp only[g9] at e;rw[e,show decide ((p 0:Int) > 60)=false from G7 (by omega)];simp only[aO,J,decide_true,s8];cases (List.range (p 0).rows.length).all (fL (p 0)) <;> rfl
  ·show swL _ p [p 0,D0,_,.i (k:Int)]=_;rw[akv,w8 (show (k:Int)<(p 0).rows.length from by omega),bP hk];simp only[f8,nd,g4,fL];cases inB (p 0 k 0).int 0 999 <;> simp only[l8,w5,f8,f5,y7,s8] <;> first | rfl | skip
   cases inB (p 0 k 1).int (-1) 1000000000 <;> simp only[l8,w5,f8,f5,y7,s8] <;> first | rfl | skip
   rw[br (x:=(k:Int)+1) (by omega) (by omega)];by_cases O:k=0
   ·subst O;rfl
   ·rw[w8 (show (k:Int) > 0 from by omega),abp O (by omega),bP (show k - 1<(p 0).rows.length from by omega),show (k==0)=false from by simpa using O];simp only[f8,g4,F5];cases decide ((p 0 (k - 1) 0).int>=(p 0 k 0).int) <;> rfl
  ·show swL _ p [p 0,D0,_,.i (p 0:Int)]=_;rw[akv,G7 (show ¬(p 0:Int)<(p 0).rows.length from by omega)];rfl
 ·rw[w8 (show (p 0:Int) > 60 from by omega)];simp only[aO,J,decide_false,y7];rfl
theorem lU:aw f4 mX:=ck fun p _=>aq (N:=(p 0).rows.length+1) (ks:= [0,2,3,4,5,6,7,8,36]) (ap (fC ⟨Ms,fC ⟨Pw,fN⟩⟩)) Tryz.func109 fun hw=>by
 have U:=dY (hw ⟨sd (.sl 70),p⟩ (by simp));have e:=CM (L:=iwL ((p 0).rows.length+1) p) (fun k => [p 0,D0,p 0,.i (p 0).rows.length,.i (k:Int)]) (p 0).rows.length (fL (p 0)) [.b false] [p 0,D0,p 0,.i (p 0).rows.length,.i (p 0).rows.length] 0 (fun k hk=>?_) ?_ (I7 _)
 ·simp only[g9] at e;rw[amT,e];cases O:(List.range (p 0).rows.length).all (fL (p 0))
  ·simp only[aO,O,C9];rfl
  ·simp only[aO,O,D2];rfl
 ·show iwL _ p [p 0,D0,p 0,.i _,.i (k:Int)]=_;rw[akr,w8 (show (k:Int)<(p 0).rows.length from by omega),bP hk];simp only[f8,nd,g4,fL];cases inB (p 0 k 0).int 0 999 <;> simp only[l8,w5,f8,f5,y7,s8] <;> first | rfl | skip
  cases inB (p 0 k 1).int (-1) 1000000000 <;> simp only[l8,w5,f8,f5,y7,s8] <;> first | rfl | skip
  rw[br (x:=(k:Int)+1) (by omega) (by omega)];by_cases J:k=0
  ·subst J;rfl
  ·rw[w8 (show (k:Int) > 0 from by omega),abp J (by omega),bP (show k - 1<(p 0).rows.length from by omega),show (k==0)=false from by simpa using J];simp only[f8,g4,F5];cases decide ((p 0 (k - 1) 0).int>=(p 0 k 0).int) <;> rfl
 ·show iwL _ p [p 0,D0,p 0,.i _,.i (p 0:Int)]=_;rw[akr,G7 (show ¬(p 0:Int)<(p 0).rows.length from by omega)];rfl
def ixF(C:Nat->Bool):Nat->Nat->Int
 | _,0 => -1
 | k,m+1=>bif C k then k else ixF C (k+1) m
theorem iD(C:Nat->Bool):∀(m k:Nat),decide (ixF C k m>=0)=(List.range m).any fun j=>C (k+j)
 | 0,k=>rfl
 | m+1,k=>by
  rw[ixF,L7,List.any_cons,List.any_map];cases J:C k with
  | true=>simp[J]
  | false =>
   simp only[f5,D4,J,F5];rw[iD C m (k+1)]
   congr 1
   funext j;simp only[Function.comp]
   congr 1;omega
theorem fK{L:b8->Out}(st:Nat->b8)(n:Nat)(C:Nat->Bool)(fin:b8)(h1:∀k,k<n->L (st k)=some (bif C k then (1,[.i (k:Int)]) else (0,st (k+1))))(U:L (st n)=some (2,fin)) :
  ∀(m k N:Nat),k+m=n->m<N->ba L N (st k)=some (bif decide (ixF C k m>=0) then (1,[.i (ixF C k m)]) else (2,fin)):=by
 intro m
 induction m with
 | zero =>
  intro k N hk hN;obtain⟨N,rfl⟩:∃J,N=J+1:=⟨N - 1,by omega⟩;obtain rfl:k=n:=by omega
  rw[ba,U];rfl
 | succ m O =>
  intro k N hk hN;obtain⟨N,rfl⟩:∃J,N=J+1:=⟨N - 1,by omega⟩;rw[ba,h1 k (by omega),ixF];cases V:C k with
  | true=>simp only[f8];rw[w8 (show (k:Int)>=0 from by omega)];rfl
  | false=>simp only[f5];exact O (k+1) N (by omega) (by omega)
def dK(C:b8->Bool)(z:D):Bool:=(List.range z.rows.length).any fun k=>C (z.rows.getD k [])
theorem fx(C:Nat->Bool):∀(m k:Nat),decide (ixF C k m>=0)=false->ixF C k m = -1
 | 0,k,_=>rfl
 | m+1,k,h=>by
  rw[ixF] at h ⊢;cases J:C k with
  | true=>rw[J,f8,w8 (show (k:Int)>=0 from by omega)] at h;cases h
  | false=>rw[J,f5] at h;rw[f5];exact fx C m (k+1) h
def ajv(z:D):Bool:=decide ((z:Int)<=16) && !dK (fun r => !ar (sub r 0 2)) z
def aA(z:D)(x:Int):Bool:=dK (fun r=>x==(r 0).int) z
def cnt(C:Nat->Bool):Nat->Nat->Nat
 | _,0=>0
 | k,m+1=>(bif C k then 1 else 0)+cnt C (k+1) m
theorem ZE(C:Nat->Bool):∀m k,cnt C k m<=m
 | 0,k=>g8 _
 | m+1,k=>by have:=ZE C m (k+1);rw[cnt];cases C k <;> simp only[f8,f5] <;> omega
theorem ajH{n:Nat}{C:Nat->Bool}:(!(List.range n).all fun k => !C k)=(List.range n).any C:=by simp[List.all_eq_not_any_not]
def sV(N:Nat)(p q:b8):b8->Out:=bc f4 (find []) N [0,1,4,5,9,17] Tryz.f95 rb [⟨sd (.sl 3),p⟩,⟨ri,q⟩] 0
theorem Ho(p q:b8)(N:Nat)(z x y:D)(k:Int):sV N p q [z,x,y,.i k]=bif decide (k<z.rows.length) then nd (al k z.rows.length) (bif ((z.rows.getD k.toNat [] 0).int==x.int) then ob true else nx [z,x,y,.i (w64 (k+1))]) else ex 0 [z,x,y,.i k]:=by kernel_rfl
theorem Vr(p q:b8)(N:Nat):aZ f4 (find []) N [0,1,4,5,9,17] Tryz.f95 rb [⟨sd (.sl 3),p⟩,⟨ri,q⟩]=some (bo,(let o:=ba (sV N p q) N [p 0,q 0,D0,.i 0]
  nd o.isSome (bif o.code==1 then some (1,o.pay) else nd (o.code==2) (ob false)))):=by kernel_rfl
def lQ:Ent:=(95,e2 (sd (.sl 3)) ri fun p q=>(⟨rb,[.b (aA (p 0) (q 0).int)]⟩,true))
theorem jJ:aw f4 lQ:=bj fun p q _=>aq (N:=(p 0).rows.length+1) (ks:= [0,1,4,5,9,17]) (ap (fN)) Tryz.func95 fun hw=>by
 have O:=dY (hw ⟨sd (.sl 3),p⟩ (by simp));have e:=CM (L:=sV ((p 0).rows.length+1) p q) (fun k => [p 0,q 0,D0,.i (k:Int)]) (p 0).rows.length (fun k => !((q 0).int==(p 0 k 0).int)) [.b true] [p 0,q 0,D0,.i (p 0).rows.length] 0 (fun k hk=>?_) ?_ (I7 _)
 ·simp only[g9] at e;rw[Vr,e];have hn:aA (p 0) (q 0).int = !(List.range (p 0).rows.length).all fun k => !((q 0).int==(p 0 k 0).int):=ajH.symm
  rw[hn];cases (List.range (p 0).rows.length).all fun k => !((q 0).int==(p 0 k 0).int) <;> rfl
 ·show sV _ p q [p 0,q 0,D0,.i (k:Int)]=_;rw[Ho,w8 (show (k:Int)<(p 0).rows.length from by omega),bP hk,br (by omega) (by omega),g4,Bool.beq_comm];cases J:((q 0).int==(p 0 k 0).int) <;> rfl
 ·show sV _ p q [p 0,q 0,D0,.i (p 0:Int)]=_;rw[Ho,G7 (show ¬(p 0:Int)<(p 0).rows.length from by omega)];rfl
def agP(N:Nat)(p q:b8):b8->Out:=bc f4 (find []) N [0,1,4,5,7,8,9,16] Tryz.f138 ri [⟨sd (.sl 3),p⟩,⟨ri,q⟩] 0
theorem afs(p q:b8)(N:Nat)(z c x:D)(n k:Int):agP N p q [z,c,x,.i n,.i k]=bif decide (k<n) then nd (al k z.rows.length) (bif (c.int==(z.rows.getD k.toNat [] 0).int) then oi k else nx [z,c,x,.i n,.i (w64 (k+1))]) else ex 0 [z,c,x,.i n,.i k]:=by kernel_rfl
theorem alT(p q:b8)(N:Nat):aZ f4 (find []) N [0,1,4,5,7,8,9,16] Tryz.f138 ri [⟨sd (.sl 3),p⟩,⟨ri,q⟩]=some (bo,(let o:=ba (agP N p q) N [p 0,q 0,.i 0,.i (p 0).rows.length,.i 0]
  nd o.isSome (bif o.code==1 then some (1,o.pay) else nd (o.code==2) (oi (-1))))):=by kernel_rfl
def alx:Ent:=(138,e2 (sd (.sl 3)) ri fun p q=>(⟨ri,[.i (ixF (fun k=>(q 0).int==(((p 0).rows.getD k []) 0).int) 0 (p 0).rows.length)]⟩,true))
theorem ahI:aw f4 alx:=bj fun p q _=>aq (N:=(p 0).rows.length+1) (ks:= [0,1,4,5,7,8,9,16]) (ap (fN)) Tryz.func138 fun hw=>by
 have U:=dY (hw ⟨sd (.sl 3),p⟩ (by simp));have e:=fK (L:=agP ((p 0).rows.length+1) p q) (fun k => [p 0,q 0,.i 0,.i (p 0).rows.length,.i (k:Int)]) (p 0).rows.length (fun k=>(q 0).int==(p 0 k 0).int) [p 0,q 0,.i 0,.i (p 0).rows.length,.i (p 0).rows.length] (fun k hk=>?_) ?_ (p 0).rows.length 0 ((p 0).rows.length+1) (by omega) (by omega)
 ·simp only[g9] at e;rw[alT,e];cases J:decide (ixF (fun k=>(q 0).int==(p 0 k 0).int) 0 (p 0).rows.length>=0)
  ·rw[fx _ _ _ J];rfl
  ·rfl
 ·show agP _ p q [p 0,q 0,.i 0,.i _,.i (k:Int)]=_;rw[afs,w8 (show (k:Int)<(p 0).rows.length from by omega),bP hk,br (by omega) (by omega),g4];cases O:((q 0).int==(p 0 k 0).int) <;> rfl
 ·show agP _ p q [p 0,q 0,.i 0,.i _,.i (p 0:Int)]=_;rw[afs,G7 (show ¬(p 0:Int)<(p 0).rows.length from by omega)];rfl
theorem amd(p q:b8)(N:Nat):aZ f4 (find [alx]) N [0,1,4] Tryz.f136 rb [⟨sd (.sl 3),p⟩,⟨ri,q⟩]=some (bo,ob (decide (ixF (fun k=>(q 0).int==(((p 0).rows.getD k []) 0).int) 0 (p 0).rows.length>=0))):=by kernel_rfl
def Xs:Ent:=(136,e2 (sd (.sl 3)) ri fun p q=>(⟨rb,[.b (aA (p 0) (q 0).int)]⟩,true))
theorem Ap:aw f4 Xs:=bj fun p q _=>aq (N:=0) (ks:= [0,1,4]) (ap (fC ⟨ahI,fN⟩)) Tryz.func136 fun _=>by rw[amd,iD];simp only[i9];rfl
def ajw(z:D)(k:Nat):Bool:=
 inB (z.rows.getD k [] 0).int 0 3&&((k==0 || !decide ((z.rows.getD (k - 1) [] 0).int>=(z.rows.getD k [] 0).int))&&(ajv (z.rows.getD k [] 1)&&(aO (z.rows.getD k [] 2)&&inB (z.rows.getD k [] 3).int 0 2)))
def Xp(z:D):Bool:=decide ((z:Int)<=4)&&(List.range z.rows.length).all (ajw z)
theorem dd(c x y:Bool):(bif c then ob x else ob y)=ob (bif c then x else y):=by cases c <;> rfl
theorem aE(n:Int):(D.i n).int=n:=rfl
theorem gX(n:Bool):(D.b n).bool=n:=rfl
theorem so(n:List UInt8):(D.s n).str=n:=rfl
theorem bp(n:List b8):(D.l n).rows=n:=rfl
theorem aF{k n:Nat}(h:k<n)(hn:n<=9223372036854775807):w64 ((k:Int)+1)=((k+1:Nat):Int):=by rw[br (by omega) (by omega)];omega
theorem aky{P:Program}{xs:List Ce}{p:b8}{e:TypeId}(h:WT P ⟨.one (.agg xs),p⟩){j:Nat}(J:xs[j]?=some (.d (.sl e))):(p j).rows.length<=9223372036854775807:=by
 have h:∀(j:Nat) c,xs[j]?=some c->WC P c (p j):=h;have h:WD P (.sl e) (p j):=h j _ J;cases h with
 | sl _ _ row _ h _=>exact h
theorem cU{L:b8->Out}(st:Nat->b8)(n:Nat)(C:Nat->Bool)(v:b8)(j:Nat)(h1:∀k,k<n->L (st k)=some (bif C k then (0,st (k+1)) else (1,v)))(J:L (st n)=some (j+2,st n)){N:Nat}(hN:n<N) :
  ba L N (st 0)=some (bif (List.range n).all C then (j+2,st n) else (1,v)):=CM st n C v (st n) j h1 J hN
def ltI(x y:Int):Bool:=decide (x<y)
def leI(x y:Int):Bool:=decide (x<=y)
def eqI(x y:Int):Bool:=decide (x=y)
theorem gJ{x y:Int}(h:x<y):ltI x y=true:=w8 h
theorem gh{x y:Int}(h:y<=x):ltI x y=false:=G7 (by omega)
theorem bb{x y:Int}(h:x<=y):leI x y=true:=w8 h
theorem Er{x y:Int}(h:y<x):leI x y=false:=G7 (by omega)
theorem fI{k n:Nat}(h:k<n):ltI (k:Int) (n:Int)=true:=w8 (by omega)
theorem Zx{n:Nat}:ltI (n:Int) (n:Int)=false:=G7 (by omega)
theorem akA{n:Nat}:leI 0 (n:Int)=true:=w8 (by omega)
theorem aiR{k n:Nat}(h:k<=n):leI (k:Int) (n:Int)=true:=w8 (by omega)
theorem cy{k n:Nat}(h:k<n){a b:Out}:(bif ltI (k:Int) (n:Int) then a else b)=a:=by rw[fI h];rfl
theorem bF{n:Nat}{a b:Out}:(bif ltI (n:Int) (n:Int) then a else b)=b:=by rw[Zx];rfl
theorem aP{a:Out}:nd true a=a:=rfl
theorem bn{k n:Nat}(h:k<n){a:Out}:nd (al (k:Int) n) a=a:=by rw[bP h];rfl
theorem aiM{k n:Nat}(h:k<=n){a:Out}:nd (leI 0 0&&leI 0 (k:Int)&&leI (k:Int) (n:Int)) a=a:=by rw[akA,aiR h];rfl
theorem hD{a b:Int}:(a != b) = !(a==b):=rfl
theorem Bo:ltI 0 ((0:Nat):Int)=false:=rfl
theorem zX{k:Nat}:ltI 0 ((k+1:Nat):Int)=true:=gJ (by omega)
theorem mV{k:Nat}(h:k+1<=9223372036854775807):w64 (((k+1:Nat):Int) - 1)=(k:Int):=by rw[br (by omega) (by omega)];omega
def bq(l:List b8):Bool:=decide (l.length<=4294967296)
theorem bL{l:List b8}(h:l.length<=4294967296):bq l=true:=w8 h
theorem de(c:Bool)(x y:Int):(bif c then oi x else oi y)=oi (bif c then x else y):=by cases c <;> rfl
theorem db(c:Bool)(x y:List UInt8):(bif c then (some (1,[.s x]):Out) else some (1,[.s y]))=some (1,[.s (bif c then x else y)]):=by cases c <;> rfl
theorem di(a:List b8):ec a a=true:=by unfold ec;exact @w8 _ (Classical.propDecidable _) rfl
def e4(J O V U:Sh)(F:b8->b8->b8->b8->T × Bool):List T->Option (T × Bool)
 | [v0,v1,v2,v3]=>bif v0.sh==J&&v1.sh==O&&v2.sh==V&&v3.sh==U then some (F v0.p v1.p v2.p v3.p) else none
 | _=>none
theorem wV{P:Program}{f:FuncId}{Z O Y V:Sh}{F:b8->b8->b8->b8->T × Bool}(h:∀p0 p1 p2 p3,(F p0 p1 p2 p3).2=true->aQ P f [⟨Z,p0⟩,⟨O,p1⟩,⟨Y,p2⟩,⟨V,p3⟩] (F p0 p1 p2 p3).1):aw P (f,e4 Z O Y V F):=by
 intro args r a0;have J:e4 Z O Y V F args=some (r,true):=a0;clear a0;unfold e4 at J
 split at J
 ·rename_i v0 v1 v2 v3;cases U:(v0.sh==Z&&v1.sh==O&&v2.sh==Y&&v3.sh==V) with
  | false=>rw[U] at J;cases J
  | true =>rw[U,f8,b7] at J;simp only[a9,p6] at U;obtain⟨a6,a2⟩:=v0;obtain⟨a7,a4⟩:=v1;obtain⟨a8,a1⟩:=v2;obtain⟨a5,a3⟩:=v3;obtain⟨⟨⟨q0,q1⟩,q2⟩,q3⟩:=U;simp only at q0;subst q0;simp only at q1;subst q1;simp only at q2;subst q2;simp only at q3;subst q3;have hh:=h a2 a4 a1 a3;rw[J] at hh;exact hh rfl
 ·cases J
def e5(J O Y U V:Sh)(F:b8->b8->b8->b8->b8->T × Bool):List T->Option (T × Bool)
 | [v0,v1,v2,v3,v4]=>bif v0.sh==J&&v1.sh==O&&v2.sh==Y&&v3.sh==U&&v4.sh==V then some (F v0.p v1.p v2.p v3.p v4.p) else none
 | _=>none
theorem aac{P:Program}{f:FuncId}{Y Z V s3 O:Sh}{F:b8->b8->b8->b8->b8->T × Bool}(h:∀p0 p1 p2 p3 p4,(F p0 p1 p2 p3 p4).2=true->aQ P f [⟨Y,p0⟩,⟨Z,p1⟩,⟨V,p2⟩,⟨s3,p3⟩,⟨O,p4⟩] (F p0 p1 p2 p3 p4).1):aw P (f,e5 Y Z V s3 O F):=by
 intro args r a0;have J:e5 Y Z V s3 O F args=some (r,true):=a0;clear a0;unfold e5 at J
 split at J
 ·rename_i v0 v1 v2 v3 v4;cases U:(v0.sh==Y&&v1.sh==Z&&v2.sh==V&&v3.sh==s3&&v4.sh==O) with
  | false=>rw[U] at J;cases J
  | true =>rw[U,f8,b7] at J;simp only[a9,p6] at U;obtain⟨b0,a1⟩:=v0;obtain⟨a7,a2⟩:=v1;obtain⟨b1,a3⟩:=v2;obtain⟨a8,a5⟩:=v3;obtain⟨a6,a4⟩:=v4;obtain⟨⟨⟨⟨q0,q1⟩,q2⟩,q3⟩,q4⟩:=U;simp only at q0;subst q0;simp only at q1;subst q1;simp only at q2;subst q2;simp only at q3;subst q3;simp only at q4;subst q4;have hh:=h a1 a2 a3 a5 a4;rw[J] at hh;exact hh rfl
 ·cases J
theorem Uv(C:Nat->Bool)(k:Nat):cnt C k 0=0:=rfl
theorem im(C:Nat->Bool):∀m k,cnt C k (m+1)=cnt C k m+(bif C (k+m) then 1 else 0)
 | 0,k=>by simp[cnt]
 | m+1,k=>by rw[cnt,im C m (k+1),cnt,show k+1+m=k+(m+1) from by omega];omega
theorem acu{C:b8->Bool}{z:D}{k:Nat}(h:k<=z.rows.length):dK C (.l (z.rows.take k))=(List.range k).any fun j=>C (z.rows.getD j []):=by
 unfold dK;rw[bp,s9,Nat.min_eq_left h];rw[p7];simp only[B8,m0];constructor
 ·rintro⟨j,J,h⟩;refine⟨j,J,?_⟩
  rwa [f9,I4 J,<- f9] at h
 ·rintro⟨j,J,h⟩;refine⟨j,J,?_⟩
  rwa [f9,I4 J,<- f9]
def ndN:Nat->Bool->Out->Out
 | 0,_,x=>x
 | n+1,c,x=>nd c (ndN n c x)
theorem kg{x:Out}:∀n,ndN n true x=x
 | 0=>rfl
 | n+1=>by rw[ndN,kg n];rfl
set_option maxRecDepth 100000
set_option maxHeartbeats 4000000
open Go.Lib
def kj(k:Nat):List b8->List Value
 | [] => []
 | r::rs=>(List.range k).map (fun j=>.int .i64 (r j).int)++kj k rs
theorem eG(k:Nat):∀rows,(kj k rows).length=rows.length*k
 | []=>by simp[kj]
 | r::rs=>by simp only[kj,i5,m9,H7,eG k rs,C2,E5];omega
theorem Bq(k:Nat):∀(rows:List b8) (i j:Nat),i<rows.length->j<k->(kj k rows)[i*k+j]?=some (.int .i64 (rows.getD i [] j).int)
 | [],i,j,h,_=>by simp at h
 | r::rs,0,j,_,hj=>by rw[kj,K2,i9,v9 (by simpa using hj)];simp[hj]
 | r::rs,i+1,j,h,hj=>by have:=Bq k rs i j (by simpa using h) hj;rw[kj,A5 (by simp only[m9,H7,E5];omega)];simp only[m9,H7];rw[show (i+1)*k+j - k=i*k+j from by rw[E5];omega,this];rfl
theorem Ni{k:Nat}{F:Nat->Value->Prop}{rows:List b8}(h:∀i j,i<rows.length->j<k->F (i*k+j) (.int .i64 (rows.getD i [] j).int)){m:Nat}{v:Value}(O:(kj k rows)[m]?=some v):F m v:=by
 have J:=(g5.1 O).1;rw[eG] at J;have hk:0<k:=by
  rcases C4 k with e | e
  ·subst e;simp at J
  ·exact e
 have hi:m / k<rows.length:=by rw[M0 hk];exact J
 have U:=Nat.mod_lt m hk;have e:m / k*k+m % k=m:=by rw[L4];exact Nat.div_add_mod m k
 have h1:=Bq k rows (m / k) (m % k) hi U;have V:=h (m / k) (m % k) hi U;rw[e] at h1 V;rw[O] at h1;injection h1 with h1
 rw[h1];exact V
theorem AN(k:Nat)(rows:List b8):∀v∈kj k rows,v.oneCell'=true:=fun v hv=>by obtain⟨m,J⟩:=E7 hv;exact Ni (F:=fun _ v=>v.oneCell'=true) (fun i j _ _=>rfl) J
theorem FM{P:Program}{w:World}{prot:Nat->Nat}{x:D}{v:Value}{e:TypeId}{k:Nat}(V:bk P e=some (List.replicate k (.int .i64)))(hk:0<k)(h:VD P w prot (.sl e) x v):∃A c,v=.slice A x.rows.length c/\x.rows.length<=c/\c<=9223372036854775807 /\
  (0<x.rows.length->∃b o,A=some ⟨b,o,none⟩)/\∀b o,A=some ⟨b,o,none⟩->∀m v,(kj k x.rows)[m]?=some v->w.cell? ⟨b,o+m,none⟩=some v/\o+m<prot b:=by
 cases h with
 | sl e d A c row u O h1 h2 U Y =>
  rw[V] at O;injection O with O
  subst O;simp only[List.length_replicate] at U Y;refine⟨A,c,rfl,h1,h2,fun h0=>?_,fun b o J m v hm=>?_⟩
  ·obtain⟨b,o,J,_⟩:=U 0 0 h0 hk;exact⟨b,o,J⟩
  ·subst J;refine Ni (F:=fun m v=>w.cell? ⟨b,o+m,none⟩=some v/\o+m<prot b) (fun i j hi Z=>?_) hm;obtain⟨b',o',J,hc,hp⟩:=U i j hi Z;injection J with J
   injection J with e1 e2 _
   subst e1;subst e2;have hv:=Y i j (.int .i64) hi (by simp[Z]);generalize u i j=z at *;cases hv;exact⟨hc,hp⟩
theorem lr{P:Program}{prot:Nat->Nat}{w w':World}{x:D}{v:Value}{e:TypeId}{k:Nat}(U:bk P e=some (List.replicate k (.int .i64)))(J:∀b,w.heap.size<=b->prot b=0)(V:Below w.heap.size w w')(ho:w'.ownsRow w.heap.size e k v x.rows.length (kj k x.rows)) :
  ∃g',Res P prot w w' ⟨.one (.c (.own (0,0) true e)),[x]⟩ v g':=by
 obtain⟨hl,⟨rfl,h0⟩ | ⟨blk,cap,cur,rfl,hblk,hh,hcap,hmax,hsz,htk⟩⟩:=ho
 ·exact⟨g0 0 prot,V,⟨_,U,.inl ⟨t6 h0,rfl,none,rfl⟩⟩,fun _ _=>rfl,fun b O=>⟨J b (o8 V.size O),rfl⟩⟩
 ·refine⟨⟨prot,fun b=>if b=blk then some (.inr (0,0)) else none,fun _=>0,fun _=>blk,fun _=>x.rows.length,fun _=>k,fun _=>e,fun _ => [],fun _=>0,fun _=>False⟩,V,⟨_,U,.inr ⟨cap,cur,e,rfl,hcap,⟨by unfold maxLen at hmax;omega,rfl,rfl⟩,hblk,j8 rfl,hh,by simpa using hsz,rfl,by simp,?_,?_⟩⟩,fun _ _=>rfl,fun b O=>⟨J b (o8 V.size O),?_⟩⟩
  ·show prot blk=0;exact J blk hblk
  ·intro i j s hi hs;have hi:i<x.rows.length:=hi;obtain⟨Y,rfl⟩:j<k/\S.int .i64=s:=by obtain⟨Y,h2⟩:=g5.1 hs;exact⟨by simpa using Y,by simpa using h2⟩
   have q:=Bq k x.rows i j hi Y;have Z:i*k+j<x.rows.length*k:=by have:=(g5.1 q).1;rw[eG] at this;exact this
   rw[<- htk,s7,j8 Z] at q;exact⟨.int .i64 (x i j).int,by simpa using q,.of_vd (.int .i64 _) (.inr rfl)⟩
  ·have:=aT hh;exact i7 (by omega)
theorem AH:bk f4 41=some (List.replicate 2 (.int .i64)):=by kernel_rfl
abbrev Qc:Value:=(.agg #[.int .i64 0,.int .i64 0])
theorem Vp:(Tryz.prog.info? 41).map (fun i=>(i.zero,i.size,i.bytes))=some (some Qc,2,16):=by kernel_rfl
theorem TY(a:Addr)(n c:Nat)(J:List Value)(w:World)(hl:J.length=n*2)(hn:n<=2000000)(hc:∀j u,J[j]?=some u->w.cell? (a.add j)=some u)(h1:∀u∈J,u.oneCell'=true) :
  Calls f4 179 #[.slice (some a) n c] w fun e w'=>∃O,e=.returned O/\w'.ownsRow w.heap.size 41 2 O n J/\Below w.heap.size w w':=by
 obtain⟨i0,a2,a0,a1,a3⟩:=info_parts Vp;have a4:Tryz.prog.follows .mixedOrders=true:=by kernel_rfl
 have a6:∀(w:World) (a:Option Addr) (n c V Z:Nat),(binOp .eql 32 (.slice a n c) (.slice none V Z)).run f4 w=.ok (.bool a.isNone) w:=fun w a n c V Z=>Lib.run_eql_slice_nil w _ _ a n c V Z Tryz.underlying32
 have A:Aside (∀j u,J[j]?=some u->w.cell? (a.add j)=some u):=hc;clear hc;go_enter Tryz.func179,Tryz.ntmps179
 go_wp2_with (at_builtin;refine wpList_append_own _ rfl _ _ 32 rfl w.heap.size 41 i0 Qc 2 16 Tryz.underlying32 a2 a0 a1 a3 rfl (by decide) _ _ _ rfl (L0 w #[] 0 (g8 _) (y5 _) (by simp)) a n c J rfl ?qc1 ?qc2 ?qc3 ?qc4 ?qc5 ?qc6 ?_)
 case qc1=>exact hl
 case qc2 =>intro j u hj;exact Lib.cell?_alloc_some _ (A.out j u hj)
 case qc3=>exact h1
 case qc4=>rw[i9];unfold maxLen;omega
 case qc5=>rw[i9];omega
 case qc6=>simp
 intro O w1 Y U a5;go_wp2
 go_ret
 refine⟨O,rfl,by simpa using Y,?_⟩;exact ((Below.refl _ w).alloc (g8 _) _).grown U (by simp) (by intro k hk;simp[Value.ownBlock] at hk;omega)
theorem PJ(n c:Nat)(w:World) :
  Calls f4 179 #[.slice none n c] w fun e w'=>e=.returned (.slice none 0 0)/\w'=w:=by
 have U:Tryz.prog.follows .mixedOrders=true:=by kernel_rfl
 have V:∀(w:World) (a:Option Addr) (n c J O:Nat),(binOp .eql 32 (.slice a n c) (.slice none J O)).run f4 w=.ok (.bool a.isNone) w:=fun w a n c J O=>Lib.run_eql_slice_nil w _ _ a n c J O Tryz.underlying32
 go_enter Tryz.func179,Tryz.ntmps179;go_wp2
 go_ret
 exact⟨rfl,rfl⟩
def Cp:Ent:=(179,e1 (sd (.sl 41)) fun p=>(⟨.one (.c (.own (0,0) true 41)),[.l (p 0).rows]⟩,leI (p 0) 2000000))
theorem Mw:aw f4 Cp:=ck fun p h=>by
 have h:leI (p 0) 2000000=true:=h;simp only[leI,f7] at h;refine aQ.of rfl ⟨cN Tryz.func179 (by kernel_rfl) (by kernel_rfl),fun w prot vs O V=>?_⟩;obtain⟨u,hu,hv⟩:=O.2 0 _ rfl;have a1:vs = #[u]:=by
  have hs:vs.size=1:=O.1;refine Array.ext (by simpa using hs) fun i h1 h2=>?_
  have:i=0:=by omega
  subst this;rw[n3 h1] at hu;injection hu
 subst a1;have hv:VD f4 w prot (.sl 41) (p 0) u:=hv;generalize p 0=x at *;obtain⟨A,c,rfl,h1,h2,h3,h4⟩:=FM AH (by decide) hv;cases A with
 | none =>
  have h0:x.rows.length=0:=by
   rcases C4 x.rows.length with h' | h'
   ·exact h'
   ·obtain⟨b,o,U⟩:=h3 h';cases U
  have a2:x.rows = []:=t6 h0;refine (PJ x.rows.length c w).mono ?_;rintro ex w' ⟨rfl,rfl⟩;obtain⟨g',J⟩:=lr (x:=x) (prot:=prot) (w:=w') (w':=w') AH V (Below.refl _ _) (v:=.slice none 0 0) ⟨eG _ _,.inl ⟨rfl,h0⟩⟩;exact⟨_,g',rfl,J.below,J.val,J.prot,J.fresh⟩
 | some ad =>
  refine (TY ad x.rows.length c (kj 2 x.rows) w (eG _ _) (by omega) (fun j u hj=>?_) (AN _ _)).mono ?_
  ·have Z:0<x.rows.length:=by have:=(g5.1 hj).1;rw[eG] at this;omega
   obtain⟨b,o,U⟩:=h3 Z;injection U with U;subst U;rw[z8];exact (h4 b o rfl j u hj).1
  ·rintro ex w' ⟨v',rfl,Y,a0⟩;obtain⟨g',J⟩:=lr (x:=x) (prot:=prot) AH V a0 Y;exact⟨_,g',rfl,J.below,J.val,J.prot,J.fresh⟩
theorem Gn:bk f4 93=some (List.replicate 4 (.int .i64)):=by kernel_rfl
abbrev Wt:Value:=(.agg #[.int .i64 0,.int .i64 0,.int .i64 0,.int .i64 0])
theorem YZ:(Tryz.prog.info? 93).map (fun i=>(i.zero,i.size,i.bytes))=some (some Wt,4,32):=by kernel_rfl
theorem Uw(a:Addr)(n c:Nat)(J:List Value)(w:World)(hl:J.length=n*4)(hn:n<=2000000)(hc:∀j u,J[j]?=some u->w.cell? (a.add j)=some u)(h1:∀u∈J,u.oneCell'=true) :
  Calls f4 165 #[.slice (some a) n c] w fun e w'=>∃O,e=.returned O/\w'.ownsRow w.heap.size 93 4 O n J/\Below w.heap.size w w':=by
 obtain⟨i0,a2,a0,a1,a3⟩:=info_parts YZ;have a4:Tryz.prog.follows .mixedOrders=true:=by kernel_rfl
 have a6:∀(w:World) (a:Option Addr) (n c V Z:Nat),(binOp .eql 34 (.slice a n c) (.slice none V Z)).run f4 w=.ok (.bool a.isNone) w:=fun w a n c V Z=>Lib.run_eql_slice_nil w _ _ a n c V Z Tryz.underlying34
 have A:Aside (∀j u,J[j]?=some u->w.cell? (a.add j)=some u):=hc;clear hc;go_enter Tryz.func165,Tryz.ntmps165
 go_wp2_with (at_builtin;refine wpList_append_own _ rfl _ _ 34 rfl w.heap.size 93 i0 Wt 4 32 Tryz.underlying34 a2 a0 a1 a3 rfl (by decide) _ _ _ rfl (L0 w #[] 0 (g8 _) (y5 _) (by simp)) a n c J rfl ?qc1 ?qc2 ?qc3 ?qc4 ?qc5 ?qc6 ?_)
 case qc1=>exact hl
 case qc2 =>intro j u hj;exact Lib.cell?_alloc_some _ (A.out j u hj)
 case qc3=>exact h1
 case qc4=>rw[i9];unfold maxLen;omega
 case qc5=>rw[i9];omega
 case qc6=>simp
 intro O w1 Y U a5;go_wp2
 go_ret
 refine⟨O,rfl,by simpa using Y,?_⟩;exact ((Below.refl _ w).alloc (g8 _) _).grown U (by simp) (by intro k hk;simp[Value.ownBlock] at hk;omega)
theorem SN(n c:Nat)(w:World) :
  Calls f4 165 #[.slice none n c] w fun e w'=>e=.returned (.slice none 0 0)/\w'=w:=by
 have U:Tryz.prog.follows .mixedOrders=true:=by kernel_rfl
 have V:∀(w:World) (a:Option Addr) (n c J O:Nat),(binOp .eql 34 (.slice a n c) (.slice none J O)).run f4 w=.ok (.bool a.isNone) w:=fun w a n c J O=>Lib.run_eql_slice_nil w _ _ a n c J O Tryz.underlying34
 go_enter Tryz.func165,Tryz.ntmps165;go_wp2
 go_ret
 exact⟨rfl,rfl⟩
def mt:Ent:=(165,e1 (sd (.sl 93)) fun p=>(⟨.one (.c (.own (0,0) true 93)),[.l (p 0).rows]⟩,leI (p 0) 2000000))
theorem mr:aw f4 mt:=ck fun p h=>by
 have h:leI (p 0) 2000000=true:=h;simp only[leI,f7] at h;refine aQ.of rfl ⟨cN Tryz.func165 (by kernel_rfl) (by kernel_rfl),fun w prot vs O V=>?_⟩;obtain⟨u,hu,hv⟩:=O.2 0 _ rfl;have a1:vs = #[u]:=by
  have hs:vs.size=1:=O.1;refine Array.ext (by simpa using hs) fun i h1 h2=>?_
  have:i=0:=by omega
  subst this;rw[n3 h1] at hu;injection hu
 subst a1;have hv:VD f4 w prot (.sl 93) (p 0) u:=hv;generalize p 0=x at *;obtain⟨A,c,rfl,h1,h2,h3,h4⟩:=FM Gn (by decide) hv;cases A with
 | none =>
  have h0:x.rows.length=0:=by
   rcases C4 x.rows.length with h' | h'
   ·exact h'
   ·obtain⟨b,o,U⟩:=h3 h';cases U
  have a2:x.rows = []:=t6 h0;refine (SN x.rows.length c w).mono ?_;rintro ex w' ⟨rfl,rfl⟩;obtain⟨g',J⟩:=lr (x:=x) (prot:=prot) (w:=w') (w':=w') Gn V (Below.refl _ _) (v:=.slice none 0 0) ⟨eG _ _,.inl ⟨rfl,h0⟩⟩;exact⟨_,g',rfl,J.below,J.val,J.prot,J.fresh⟩
 | some ad =>
  refine (Uw ad x.rows.length c (kj 4 x.rows) w (eG _ _) (by omega) (fun j u hj=>?_) (AN _ _)).mono ?_
  ·have Z:0<x.rows.length:=by have:=(g5.1 hj).1;rw[eG] at this;omega
   obtain⟨b,o,U⟩:=h3 Z;injection U with U;subst U;rw[z8];exact (h4 b o rfl j u hj).1
  ·rintro ex w' ⟨v',rfl,Y,a0⟩;obtain⟨g',J⟩:=lr (x:=x) (prot:=prot) Gn V a0 Y;exact⟨_,g',rfl,J.below,J.val,J.prot,J.fresh⟩
theorem By:bk f4 70=some (List.replicate 2 (.int .i64)):=by kernel_rfl
abbrev Qk:Value:=(.agg #[.int .i64 0,.int .i64 0])
theorem Wf:(Tryz.prog.info? 70).map (fun i=>(i.zero,i.size,i.bytes))=some (some Qk,2,16):=by kernel_rfl
theorem Ss(a:Addr)(n c:Nat)(J:List Value)(w:World)(hl:J.length=n*2)(hn:n<=2000000)(hc:∀j u,J[j]?=some u->w.cell? (a.add j)=some u)(h1:∀u∈J,u.oneCell'=true) :
  Calls f4 119 #[.slice (some a) n c] w fun e w'=>∃O,e=.returned O/\w'.ownsRow w.heap.size 70 2 O n J/\Below w.heap.size w w':=by
 obtain⟨i0,a2,a0,a1,a3⟩:=info_parts Wf;have a4:Tryz.prog.follows .mixedOrders=true:=by kernel_rfl
 have a6:∀(w:World) (a:Option Addr) (n c V Z:Nat),(binOp .eql 54 (.slice a n c) (.slice none V Z)).run f4 w=.ok (.bool a.isNone) w:=fun w a n c V Z=>Lib.run_eql_slice_nil w _ _ a n c V Z Tryz.underlying54
 have A:Aside (∀j u,J[j]?=some u->w.cell? (a.add j)=some u):=hc;clear hc;go_enter Tryz.func119,Tryz.ntmps119
 go_wp2_with (at_builtin;refine wpList_append_own _ rfl _ _ 54 rfl w.heap.size 70 i0 Qk 2 16 Tryz.underlying54 a2 a0 a1 a3 rfl (by decide) _ _ _ rfl (L0 w #[] 0 (g8 _) (y5 _) (by simp)) a n c J rfl ?qc1 ?qc2 ?qc3 ?qc4 ?qc5 ?qc6 ?_)
 case qc1=>exact hl
 case qc2 =>intro j u hj;exact Lib.cell?_alloc_some _ (A.out j u hj)
 case qc3=>exact h1
 case qc4=>rw[i9];unfold maxLen;omega
 case qc5=>rw[i9];omega
 case qc6=>simp
 intro O w1 Y U a5;go_wp2
 go_ret
 refine⟨O,rfl,by simpa using Y,?_⟩;exact ((Below.refl _ w).alloc (g8 _) _).grown U (by simp) (by intro k hk;simp[Value.ownBlock] at hk;omega)
theorem OU(n c:Nat)(w:World) :
  Calls f4 119 #[.slice none n c] w fun e w'=>e=.returned (.slice none 0 0)/\w'=w:=by
 have U:Tryz.prog.follows .mixedOrders=true:=by kernel_rfl
 have V:∀(w:World) (a:Option Addr) (n c J O:Nat),(binOp .eql 54 (.slice a n c) (.slice none J O)).run f4 w=.ok (.bool a.isNone) w:=fun w a n c J O=>Lib.run_eql_slice_nil w _ _ a n c J O Tryz.underlying54
 go_enter Tryz.func119,Tryz.ntmps119;go_wp2
 go_ret
 exact⟨rfl,rfl⟩
def to:Ent:=(119,e1 (sd (.sl 70)) fun p=>(⟨.one (.c (.own (0,0) true 70)),[.l (p 0).rows]⟩,leI (p 0) 2000000))
theorem xv:aw f4 to:=ck fun p h=>by
 have h:leI (p 0) 2000000=true:=h;simp only[leI,f7] at h;refine aQ.of rfl ⟨cN Tryz.func119 (by kernel_rfl) (by kernel_rfl),fun w prot vs O V=>?_⟩;obtain⟨u,hu,hv⟩:=O.2 0 _ rfl;have a1:vs = #[u]:=by
  have hs:vs.size=1:=O.1;refine Array.ext (by simpa using hs) fun i h1 h2=>?_
  have:i=0:=by omega
  subst this;rw[n3 h1] at hu;injection hu
 subst a1;have hv:VD f4 w prot (.sl 70) (p 0) u:=hv;generalize p 0=x at *;obtain⟨A,c,rfl,h1,h2,h3,h4⟩:=FM By (by decide) hv;cases A with
 | none =>
  have h0:x.rows.length=0:=by
   rcases C4 x.rows.length with h' | h'
   ·exact h'
   ·obtain⟨b,o,U⟩:=h3 h';cases U
  have a2:x.rows = []:=t6 h0;refine (OU x.rows.length c w).mono ?_;rintro ex w' ⟨rfl,rfl⟩;obtain⟨g',J⟩:=lr (x:=x) (prot:=prot) (w:=w') (w':=w') By V (Below.refl _ _) (v:=.slice none 0 0) ⟨eG _ _,.inl ⟨rfl,h0⟩⟩;exact⟨_,g',rfl,J.below,J.val,J.prot,J.fresh⟩
 | some ad =>
  refine (Ss ad x.rows.length c (kj 2 x.rows) w (eG _ _) (by omega) (fun j u hj=>?_) (AN _ _)).mono ?_
  ·have Z:0<x.rows.length:=by have:=(g5.1 hj).1;rw[eG] at this;omega
   obtain⟨b,o,U⟩:=h3 Z;injection U with U;subst U;rw[z8];exact (h4 b o rfl j u hj).1
  ·rintro ex w' ⟨v',rfl,Y,a0⟩;obtain⟨g',J⟩:=lr (x:=x) (prot:=prot) By V a0 Y;exact⟨_,g',rfl,J.below,J.val,J.prot,J.fresh⟩
set_option maxRecDepth 4096
def ang(z:D)(k:Nat):Bool:=(z.rows.getD k [] 3).int==3
theorem abf{n:Nat}{C:Nat->Bool}:((List.range n).all fun k => !C k) = !(List.range n).any C:=by simp[List.all_eq_not_any_not]
def cV:List S:= [si,si,si,si]
def aK:List S:= [si,.sl 41,.sl 41,.sl 108,.sl 93,.sl 75,.sl 3,.sl 3,si]
abbrev abL:=find [nS]
abbrev aba:=[0,2]
theorem acb(N:Nat)(p:b8):aZ f4 abL N aba Tryz.f105 rb [⟨ri,p⟩]=some (bo,
 ob (inB (p 0).int 1 60)):=by kernel_rfl
def uH:Ent:=(105,e1 ri fun p=>(⟨rb,[.b (inB (p 0).int 1 60)]⟩,true))
theorem oE:aw f4 uH:=ck fun p h=>aq (N:=0) (ks:=aba) (ap (fC ⟨jS,fN⟩)) Tryz.func105 fun hw=>by
 rw[acb]
 skip
abbrev Vx:=find [og]
abbrev UD:=[0,2]
theorem Ya(N:Nat)(p:b8):aZ f4 Vx N UD Tryz.f92 rb [⟨ri,p⟩]=some (bo,
 ob (inB (p 0).int 1 60)):=by kernel_rfl
def mM:Ent:=(92,e1 ri fun p=>(⟨rb,[.b (inB (p 0).int 1 60)]⟩,true))
theorem jo:aw f4 mM:=ck fun p h=>aq (N:=0) (ks:=UD) (ap (fC ⟨lN,fN⟩)) Tryz.func92 fun hw=>by
 rw[Ya]
 skip
abbrev Re:=find []
theorem TV:av f4 Re:=ap (fN)
abbrev Qy:=[0,2]
theorem Vt(N:Nat)(p:b8):aZ f4 Re N Qy Tryz.f176 rb [⟨ri,p⟩]=some (bo,
 bif (p 0).int==1 then ob true
 else ob ((p 0).int==2)):=by kernel_rfl
def cO(p:b8):Bool:=
 bif (p 0).int==1 then true
 else (p 0).int==2
def ya:Ent:=(176,e1 ri fun p=>(⟨rb,[.b (cO [p 0])]⟩,true))
theorem wO:aw f4 ya:=ck fun p h=>aq (N:=0) (ks:=Qy) TV Tryz.func176 fun hw=>by
 rw[Vt]
 try simp only[dd,de,db]
 rfl
abbrev Nv:=find []
theorem OC:av f4 Nv:=ap (fN)
abbrev Ko:=[0,2]
theorem Sr(N:Nat)(p:b8):aZ f4 Nv N Ko Tryz.f237 rb [⟨ri,p⟩]=some (bo,
 bif (p 0).int==1 then ob true
 else ob ((p 0).int==2)):=by kernel_rfl
def lL(p:b8):Bool:=
 bif (p 0).int==1 then true
 else (p 0).int==2
def AK:Ent:=(237,e1 ri fun p=>(⟨rb,[.b (lL [p 0])]⟩,true))
theorem Ej:aw f4 AK:=ck fun p h=>aq (N:=0) (ks:=Ko) OC Tryz.func237 fun hw=>by
 rw[Sr]
 try simp only[dd,de,db]
 rfl
abbrev ahf:=find []
theorem acK:av f4 ahf:=ap (fN)
abbrev agh:=[0,2]
theorem afE(N:Nat)(p:b8):aZ f4 ahf N agh Tryz.f113 (ag ay) [⟨ri,p⟩]=some (bo,
 some (1,[p 0,.i (w64 ((p 0).int+1))])):=by kernel_rfl
def Md:Ent:=(113,e1 ri fun p=>(⟨ag ay,[p 0,.i (w64 ((p 0).int+1))]⟩,true))
theorem BU:aw f4 Md:=ck fun p h=>aq (N:=0) (ks:=agh) acK Tryz.func113 fun hw=>by
 rw[afE]
 skip
abbrev QO:=find []
theorem Si:av f4 QO:=ap (fN)
abbrev QI:=[0,2]
theorem VV(N:Nat)(p:b8):aZ f4 QO N QI Tryz.f98 (ag ay) [⟨ri,p⟩]=some (bo,
 some (1,[p 0,.i (w64 ((p 0).int+1))])):=by kernel_rfl
def xY:Ent:=(98,e1 ri fun p=>(⟨ag ay,[p 0,.i (w64 ((p 0).int+1))]⟩,true))
theorem wm:aw f4 xY:=ck fun p h=>aq (N:=0) (ks:=QI) Si Tryz.func98 fun hw=>by
 rw[VV]
 skip
abbrev VH:=find []
theorem Vn:av f4 VH:=ap (fN)
abbrev VQ:=[0,1,2]
theorem ZK(N:Nat)(p:b8):aZ f4 VH N VQ Tryz.f160 (ag ay) [⟨ag cV,p⟩]=some (bo,
 some (1,sub p 1 2)):=by kernel_rfl
def xz:Ent:=(160,e1 (ag cV) fun p=>(⟨ag ay,[p 1,p 2]⟩,true))
theorem tD:aw f4 xz:=ck fun p h=>aq (N:=0) (ks:=VQ) Vn Tryz.func160 fun hw=>by rw[ZK];rfl
abbrev Hm:=find []
theorem KX:av f4 Hm:=ap (fN)
abbrev GF:=[0,1,2]
theorem OY(N:Nat)(p:b8):aZ f4 Hm N GF Tryz.f65 (ag ay) [⟨ag cV,p⟩]=some (bo,
 some (1,sub p 1 2)):=by kernel_rfl
def gq:Ent:=(65,e1 (ag cV) fun p=>(⟨ag ay,[p 1,p 2]⟩,true))
theorem fP:aw f4 gq:=ck fun p h=>aq (N:=0) (ks:=GF) KX Tryz.func65 fun hw=>by rw[OY];rfl
abbrev VE:=find []
theorem Vw:av f4 VE:=ap (fN)
abbrev Wi:=[0,1,2,3,4]
theorem Ys(N:Nat)(p q:b8):aZ f4 VE N Wi Tryz.f181 rb [⟨ag ay,p⟩,⟨ag ay,q⟩]=some (bo,
 bif ltI (p 0).int (q 1).int then ob (ltI (q 0).int (p 1).int)
 else ob false):=by kernel_rfl
def cz(p q:b8):Bool:=
 bif ltI (p 0).int (q 1).int then ltI (q 0).int (p 1).int
 else false
def DJ:Ent:=(181,e2 (ag ay) (ag ay) fun p q=>(⟨rb,[.b (cz p q)]⟩,true))
theorem AZ:aw f4 DJ:=bj fun p q h=>aq (N:=0) (ks:=Wi) Vw Tryz.func181 fun hw=>by
 rw[Ys]
 try simp only[dd,de,db]
 rfl
abbrev Wh:=find [xz,DJ]
abbrev Wn:=[0,1,2,3,4]
theorem YN(N:Nat)(p q:b8):aZ f4 Wh N Wn Tryz.f231 rb [⟨ag cV,p⟩,⟨ag cV,q⟩]=some (bo,
 bif (p 0).int != (q 0).int then bif (p 3).int==2 then ob (cz [p 1,p 2] [q 1,q 2])
 else bif (q 3).int==2 then ob (cz [p 1,p 2] [q 1,q 2])
 else ob false
 else ob false):=by kernel_rfl
def cA(p q:b8):Bool:=
 bif (p 0).int != (q 0).int then bif (p 3).int==2 then cz [p 1,p 2] [q 1,q 2]
 else bif (q 3).int==2 then cz [p 1,p 2] [q 1,q 2]
 else false
 else false
def MN:Ent:=(231,e2 (ag cV) (ag cV) fun p q=>(⟨rb,[.b (cA p q)]⟩,true))
theorem Kp:aw f4 MN:=bj fun p q h=>aq (N:=0) (ks:=Wn) (ap (fC ⟨tD,fC ⟨AZ,fN⟩⟩)) Tryz.func231 fun hw=>by
 rw[YN]
 try simp only[dd,de,db]
 rfl
abbrev abC:=find [nS]
abbrev aby:=[0,1,2,4]
theorem acC(N:Nat)(p q:b8):aZ f4 abC N aby Tryz.f130 rb [⟨ag ay,p⟩,⟨ri,q⟩]=some (bo,
 ob (inB (q 0).int (p 0).int (w64 ((p 1).int - 1)))):=by kernel_rfl
def JH:Ent:=(130,e2 (ag ay) ri fun p q=>(⟨rb,[.b (inB (q 0).int (p 0).int (w64 ((p 1).int - 1)))]⟩,true))
theorem FK:aw f4 JH:=bj fun p q h=>aq (N:=0) (ks:=aby) (ap (fC ⟨jS,fN⟩)) Tryz.func130 fun hw=>by
 rw[acC]
 skip
abbrev Xd:=find []
theorem Vo:av f4 Xd:=ap (fN)
abbrev Ws:=[0,1,4,7]
theorem YW(N:Nat)(p q:b8):aZ f4 Xd N Ws Tryz.f187 ri [⟨ri,p⟩,⟨ri,q⟩]=some (bo,
 bif ltI (q 0).int (p 0).int then some (1,[p 0])
 else some (1,[q 0])):=by kernel_rfl
def Jj(x y:D):D:=bif ltI y.int x.int then x else y
def IG(x y:D):D:=bif ltI x.int y.int then x else y
def Xb:Ent:=(187,e2 ri ri fun p q=>(⟨ri,[Jj (p 0) (q 0)]⟩,true))
theorem ZM:aw f4 Xb:=bj fun p q h=>aq (N:=0) (ks:=Ws) Vo Tryz.func187 fun hw=>by rw[YW];show some (bo,bif ltI (q 0).int (p 0).int then some (1,[p 0]) else some (1,[q 0]))=some (bo,some (1,[bif ltI (q 0).int (p 0).int then p 0 else q 0]));cases ltI (q 0).int (p 0).int <;> rfl
abbrev Xk:=find []
theorem Uz:av f4 Xk:=ap (fN)
abbrev XA:=[0,1,4,7]
theorem Zd(N:Nat)(p q:b8):aZ f4 Xk N XA Tryz.f188 ri [⟨ri,p⟩,⟨ri,q⟩]=some (bo,
 bif ltI (p 0).int (q 0).int then some (1,[p 0])
 else some (1,[q 0])):=by kernel_rfl
def We:Ent:=(188,e2 ri ri fun p q=>(⟨ri,[IG (p 0) (q 0)]⟩,true))
theorem Yo:aw f4 We:=bj fun p q h=>aq (N:=0) (ks:=XA) Uz Tryz.func188 fun hw=>by rw[Zd];show some (bo,bif ltI (p 0).int (q 0).int then some (1,[p 0]) else some (1,[q 0]))=some (bo,some (1,[bif ltI (p 0).int (q 0).int then p 0 else q 0]));cases ltI (p 0).int (q 0).int <;> rfl
abbrev Di:=find [Xb,We,eI]
abbrev Ed:=[0,1,2,3,4,5,6,30]
def rS(N:Nat)(p q:b8):List b8:= [[.i 0],[Jj (p 0) (q 0),IG (p 1) (q 1)],[IG (p 1) (q 1)],[Jj (p 0) (q 0)],[q 1],[.i 0],[p 1],[.i 0],[q 0],[.i 0],[p 0],[.i 0],p,q,[.i 0],[.i 0],[.i 0],[.i 0],[p 0,p 1],[q 0,q 1],[.i 0,.i 0],[Jj (p 0) (q 0),IG (p 1) (q 1)]]
theorem Lv(N:Nat)(p q:b8):aZ f4 Di N Ed Tryz.f64 (.tup [.agg [.d si,.d si],.c (.d (.bool))]) [⟨ag ay,p⟩,⟨ag ay,q⟩]=some (bo,
 ndN 3 (ec (rS N p q) (rS N p q)) (bif !(ar (sub p 0 2)) then some (1,[.i 0,.i 0,.b false])
 else bif !(ar (sub q 0 2)) then some (1,[.i 0,.i 0,.b false])
 else bif !(ar [Jj (p 0) (q 0),IG (p 1) (q 1)]) then some (1,[.i 0,.i 0,.b false])
 else some (1,[Jj (p 0) (q 0),IG (p 1) (q 1),.b true]))):=by kernel_rfl
def cg(p q:b8):b8:=bif ar p&&(ar q&&ar [Jj (p 0) (q 0),IG (p 1) (q 1)]) then[Jj (p 0) (q 0),IG (p 1) (q 1),.b true] else[.i 0,.i 0,.b false]
def uN(p q:b8):Bool:=ar p&&(ar q&&ar [Jj (p 0) (q 0),IG (p 1) (q 1)])
theorem Tq(p q:b8):(cg p q 2).bool=uN p q:=by unfold cg uN;cases ar p&&(ar q&&ar [Jj (p 0) (q 0),IG (p 1) (q 1)]) <;> rfl
theorem ajA(a b:Bool):(bif a then b else false)=(a&&b):=by cases a <;> rfl
theorem Mv{p q:b8}(J:ar p=true)(O:ar q=true):uN p q=cz p q:=by unfold uN cz;rw[J,O,ajA];simp only[ar,a9,f7] at J O;unfold ar Jj IG ltI;by_cases h1:(q 0).int<(p 0).int <;> by_cases U:(p 1).int<(q 1).int <;> simp only[h1,U,decide_true,decide_false,f8,f5,aL,aJ] <;> rw[p7] <;> simp only[a9,f7,true_and] <;> omega
def kX:Ent:=(64,e2 (ag ay) (ag ay) fun p q=>(⟨.tup [.agg [.d si,.d si],.c (.d (.bool))],sub (cg p q) 0 3⟩,true))
theorem kR:aw f4 kX:=bj fun p q h=>aq (N:=0) (ks:=Ed) (ap (fC ⟨ZM,fC ⟨Yo,fC ⟨dy,fN⟩⟩⟩)) Tryz.func64 fun hw=>by
 rw[Lv];simp only[di,kg,aP];rw[show ar (sub p 0 2)=ar p from rfl,show ar (sub q 0 2)=ar q from rfl];unfold cg;cases ar p <;> cases ar q <;> try rfl
 cases ar [Jj (p 0) (q 0),IG (p 1) (q 1)] <;> rfl
abbrev GX:=find [gq,kX]
abbrev Ii:=[0,1,2,3,4,6]
def vi(N:Nat)(p q:b8):List b8:= [[cg [p 1,p 2] [q 1,q 2] 2],[.i 0],[cg [p 1,p 2] [q 1,q 2] 2],[cg [p 1,p 2] [q 1,q 2] 0,cg [p 1,p 2] [q 1,q 2] 1],sub (cg [p 1,p 2] [q 1,q 2]) 0 3,sub (cg [p 1,p 2] [q 1,q 2]) 0 3,[q 1,q 2],[p 1,p 2],sub q 0 4,sub p 0 4,p,q,[.i 0],[.i 0],[.i 0],sub p 0 4,sub q 0 4,[cg [p 1,p 2] [q 1,q 2] 0,cg [p 1,p 2] [q 1,q 2] 1]]
theorem Oz(N:Nat)(p q:b8):aZ f4 GX N Ii Tryz.f238 rb [⟨ag cV,p⟩,⟨ag cV,q⟩]=some (bo,
 ndN 8 (ec (vi N p q) (vi N p q)) (bif (cg [p 1,p 2] [q 1,q 2] 2).bool then bif (p 0).int != (q 0).int then bif (p 3).int==2 then ob true
 else ob ((q 3).int==2)
 else ob false
 else ob false)):=by kernel_rfl
def kF(p q:b8):Bool:=uN [p 1,p 2] [q 1,q 2]&&(!((p 0).int==(q 0).int)&&(((p 3).int==2)||((q 3).int==2)))
theorem EY{p q:b8}(J:ar [p 1,p 2]=true)(O:ar [q 1,q 2]=true):kF p q=cA p q:=by unfold kF cA;rw[Mv J O,hD];cases (p 0).int==(q 0).int <;> cases (p 3).int==2 <;> cases (q 3).int==2 <;> cases cz [p 1,p 2] [q 1,q 2] <;> rfl
def vO:Ent:=(238,e2 (ag cV) (ag cV) fun p q=>(⟨rb,[.b (kF p q)]⟩,true))
theorem zv:aw f4 vO:=bj fun p q h=>aq (N:=0) (ks:=Ii) (ap (fC ⟨fP,fC ⟨kR,fN⟩⟩)) Tryz.func238 fun hw=>by rw[Oz];simp only[di,kg,aP,Tq,hD];unfold kF;cases uN [p 1,p 2] [q 1,q 2] <;> cases (p 0).int==(q 0).int <;> cases (p 3).int==2 <;> cases (q 3).int==2 <;> rfl
abbrev Lc:=find [eI]
abbrev Nf:=[0,1,2,3,4]
theorem Sy(N:Nat)(p q:b8):aZ f4 Lc N Nf Tryz.f202 rb [⟨ag ay,p⟩,⟨ag ay,q⟩]=some (bo,
 bif ar (sub p 0 2) then bif ar (sub q 0 2) then bif leI (q 0).int (p 0).int then ob (leI (p 1).int (q 1).int)
 else ob false
 else ob false
 else ob false):=by kernel_rfl
def ff(p q:b8):Bool:=
 bif ar (sub p 0 2) then bif ar (sub q 0 2) then bif leI (q 0).int (p 0).int then leI (p 1).int (q 1).int
 else false
 else false
 else false
def Om:Ent:=(202,e2 (ag ay) (ag ay) fun p q=>(⟨rb,[.b (ff p q)]⟩,true))
theorem Uc:aw f4 Om:=bj fun p q h=>aq (N:=0) (ks:=Nf) (ap (fC ⟨dy,fN⟩)) Tryz.func202 fun hw=>by
 rw[Sy]
 try simp only[dd,de,db]
 rfl
theorem UP{L:b8->Out}(st:Nat->b8)(n:Nat)(C:Nat->Bool)(v:b8)(j:Nat)(h1:∀k,k<n->L (st k)=some (bif C k then (1,v) else (0,st (k+1))))(J:L (st n)=some (j+2,st n)){N:Nat}(hN:n<N) :
  ba L N (st 0)=some (bif (List.range n).any C then (1,v) else (j+2,st n)):=by
 have e:=cU st n (fun k => !C k) v j (fun k hk=>by rw[h1 k hk];cases C k <;> rfl) J hN;rw[e,abf];cases (List.range n).any C <;> rfl
abbrev Ch:=find [MN]
abbrev EG:=[0,1,2,3]
theorem LC(N:Nat)(p q:b8):aZ f4 Ch N EG Tryz.f230 rb [⟨ag cV,p⟩,⟨.one (.c (.cptr [si,si,si,si] 0)),q⟩]=some (bo,
 ob (cA (sub ((q 0).rows.getD 0 []) 0 4) (sub p 0 4))):=by kernel_rfl
def oz(p q:b8):Bool:=
 cA (sub ((q 0).rows.getD 0 []) 0 4) (sub p 0 4)
def tP:Ent:=(230,e2 (ag cV) (.one (.c (.cptr [si,si,si,si] 0))) fun p q=>(⟨rb,[.b (oz p [q 0])]⟩,true))
theorem xn:aw f4 tP:=bj fun p q h=>aq (N:=0) (ks:=EG) (ap (fC ⟨Kp,fN⟩)) Tryz.func230 fun hw=>by
 rw[LC]
 try simp only[dd,de,db]
 rfl
abbrev xR:=find []
theorem BO:av f4 xR:=ap (fN)
abbrev wF:=[0,1,2,3,4,5]
theorem Gf(N:Nat)(p q r s:b8):aZ f4 xR N wF Tryz.f177 rb [⟨ag cV,p⟩,⟨.one (.c (.cptr [si] 0)),q⟩,⟨.one (.c (.cptr [si] 0)),r⟩,⟨.one (.c (.cptr [si,si] 0)),s⟩]=some (bo,
 bif (p 0).int==(((q 0).rows.getD 0 []) 0).int then bif (p 3).int==(((r 0).rows.getD 0 []) 0).int then bif leI (p 1).int (((s 0).rows.getD 0 []) 0).int then ob (leI (((s 0).rows.getD 0 []) 1).int (p 2).int)
 else ob false
 else bif (p 3).int==2 then bif leI (p 1).int (((s 0).rows.getD 0 []) 0).int then ob (leI (((s 0).rows.getD 0 []) 1).int (p 2).int)
 else ob false
 else ob false
 else ob false):=by kernel_rfl
def er(p q r s:b8):Bool:=
 bif (p 0).int==(((q 0).rows.getD 0 []) 0).int then bif (p 3).int==(((r 0).rows.getD 0 []) 0).int then bif leI (p 1).int (((s 0).rows.getD 0 []) 0).int then leI (((s 0).rows.getD 0 []) 1).int (p 2).int
 else false
 else bif (p 3).int==2 then bif leI (p 1).int (((s 0).rows.getD 0 []) 0).int then leI (((s 0).rows.getD 0 []) 1).int (p 2).int
 else false
 else false
 else false
def pv:Ent:=(177,e4 (ag cV) (.one (.c (.cptr [si] 0))) (.one (.c (.cptr [si] 0))) (.one (.c (.cptr [si,si] 0))) fun p q r s=>(⟨rb,[.b (er p [q 0] [r 0] [s 0])]⟩,true))
theorem sM:aw f4 pv:=wV fun p q r s h=>aq (N:=0) (ks:=wF) BO Tryz.func177 fun hw=>by
 rw[Gf]
 try simp only[dd,de,db]
 rfl
abbrev ZJ:=find [tP]
abbrev Yn:=[0,1,4,5,7,8,9,16]
def Em(N:Nat)(p q:b8):b8->Out:=bc f4 ZJ N Yn Tryz.f234 ri [⟨sd (.sl 93),p⟩,⟨.one (.c (.fn 230 [.cptr [si,si,si,si] 0])),q⟩] 0
theorem aaq(N:Nat)(p q:b8)(O U Y V J:D):(Em N p q) [O,U,Y,V,J] =
 bif ltI J.int V.int then nd (al J.int O.rows.length) (bif oz (sub (O.rows.getD J.int.toNat []) 0 4) [(U.rows.getD 0 [] 0)] then some (1,[J])
 else nx [O,U,Y,V,.i (w64 (J.int+1))])
 else ex 0 [O,U,Y,V,J]:=by kernel_rfl
theorem ahO(N:Nat)(p q:b8):aZ f4 ZJ N Yn Tryz.f234 ri [⟨sd (.sl 93),p⟩,⟨.one (.c (.fn 230 [.cptr [si,si,si,si] 0])),q⟩]=some (bo,
 (let J:=ba (Em N p q) N [p 0,q 0,.i 0,.i (p 0:Int),.i 0]
  nd J.isSome (bif J.code==1 then some (1,J.pay)
  else nd (J.code==2) (oi (-1))))):=by kernel_rfl
def qU(c:D)(r:b8):Bool:=oz r [c.rows.getD 0 [] 0]
def ahW:Ent:=(234,e2 (sd (.sl 93)) (.one (.c (.fn 230 [.cptr [si,si,si,si] 0]))) fun p q=>(⟨ri,[.i (ixF (fun k=>qU (q 0) (sub ((p 0).rows.getD k []) 0 4)) 0 (p 0).rows.length)]⟩,true))
theorem aem:aw f4 ahW:=bj fun p q h=>aq (N:=(p 0).rows.length+1) (ks:=Yn) (ap (fC ⟨xn,fN⟩)) Tryz.func234 fun hw=>by
 rw[ahO];have U:=dY (hw ⟨sd (.sl 93),p⟩ (by simp));have e:=fK (L:=Em ((p 0).rows.length+1) p q) (fun k => [p 0,q 0,.i 0,.i (p 0:Int),.i (k:Int)]) (p 0).rows.length (fun k=>qU (q 0) (sub (p 0 k) 0 4)) [p 0,q 0,.i 0,.i (p 0:Int),.i (p 0:Int)] (fun k hk=>?_) ?_ (p 0).rows.length 0 ((p 0).rows.length+1) (by omega) (by omega)
 ·simp only[g9] at e;rw[e];have J:=fx (fun k=>qU (q 0) (sub (p 0 k) 0 4)) (p 0).rows.length 0;cases O:decide (ixF (fun k=>qU (q 0) (sub (p 0 k) 0 4)) 0 (p 0).rows.length>=0)
  ·rw[J O];rfl
  ·rfl
 ·show Em _ p q [_,_,_,_,.i (k:Int)]=_;rw[aaq];simp only[aE,cy hk,bn hk,aF hk U,g4];unfold qU;cases oz (sub (p 0 k) 0 4) [q 0 0 0] <;> rfl
 ·show Em _ p q [_,_,_,.i (p 0:Int),.i (p 0:Int)]=_;rw[aaq];simp only[aE,bF]
abbrev afh:=find [ahW,tP]
abbrev agq:=[0,1,4]
theorem ahv(N:Nat)(p q:b8):aZ f4 afh N agq Tryz.f158 rb [⟨sd (.sl 93),p⟩,⟨.one (.c (.fn 230 [.cptr [si,si,si,si] 0])),q⟩]=some (bo,
 ob (leI 0 (ixF (fun k=>qU (.l [[((q 0).rows.getD 0 []) 0]]) (sub ((p 0).rows.getD k []) 0 4)) 0 (p 0).rows.length))):=by kernel_rfl
def aeH:Ent:=(158,e2 (sd (.sl 93)) (.one (.c (.fn 230 [.cptr [si,si,si,si] 0]))) fun p q=>(⟨rb,[.b (dK (fun J=>qU (q 0) (sub J 0 4)) (p 0))]⟩,true))
theorem ahZ:aw f4 aeH:=bj fun p q h=>aq (N:=0) (ks:=agq) (ap (fC ⟨aem,fC ⟨xn,fN⟩⟩)) Tryz.func158 fun hw=>by rw[ahv];refine congrArg (fun x=>some (bo,ob x)) ?_;exact (iD (fun k=>qU (q 0) (sub (p 0 k) 0 4)) (p 0).rows.length 0).trans (by simp only[i9];rfl)
abbrev YX:=find [pv]
abbrev Yk:=[0,1,4,5,7,8,9,16]
def Eg(N:Nat)(p q:b8):b8->Out:=bc f4 YX N Yk Tryz.f234 ri [⟨sd (.sl 93),p⟩,⟨.one (.c (.fn 177 [.cptr [si] 0,.cptr [si] 0,.cptr [si,si] 0])),q⟩] 0
theorem aaO(N:Nat)(p q:b8)(U O Y V J:D):(Eg N p q) [U,O,Y,V,J] =
 bif ltI J.int V.int then nd (al J.int U.rows.length) (bif er (sub (U.rows.getD J.int.toNat []) 0 4) [(O.rows.getD 0 [] 0)] [((O.rows.getD 0 []).tail 0)] [((O.rows.getD 0 []).tail.tail 0)] then some (1,[J])
 else nx [U,O,Y,V,.i (w64 (J.int+1))])
 else ex 0 [U,O,Y,V,J]:=by kernel_rfl
theorem ahm(N:Nat)(p q:b8):aZ f4 YX N Yk Tryz.f234 ri [⟨sd (.sl 93),p⟩,⟨.one (.c (.fn 177 [.cptr [si] 0,.cptr [si] 0,.cptr [si,si] 0])),q⟩]=some (bo,
 (let J:=ba (Eg N p q) N [p 0,q 0,.i 0,.i (p 0:Int),.i 0]
  nd J.isSome (bif J.code==1 then some (1,J.pay)
  else nd (J.code==2) (oi (-1))))):=by kernel_rfl
def oO(c:D)(r:b8):Bool:=er r [c.rows.getD 0 [] 0] [(c.rows.getD 0 []).tail 0] [(c.rows.getD 0 []).tail.tail 0]
def ahu:Ent:=(234,e2 (sd (.sl 93)) (.one (.c (.fn 177 [.cptr [si] 0,.cptr [si] 0,.cptr [si,si] 0]))) fun p q=>(⟨ri,[.i (ixF (fun k=>oO (q 0) (sub ((p 0).rows.getD k []) 0 4)) 0 (p 0).rows.length)]⟩,true))
theorem ahy:aw f4 ahu:=bj fun p q h=>aq (N:=(p 0).rows.length+1) (ks:=Yk) (ap (fC ⟨sM,fN⟩)) Tryz.func234 fun hw=>by
 rw[ahm];have U:=dY (hw ⟨sd (.sl 93),p⟩ (by simp));have e:=fK (L:=Eg ((p 0).rows.length+1) p q) (fun k => [p 0,q 0,.i 0,.i (p 0:Int),.i (k:Int)]) (p 0).rows.length (fun k=>oO (q 0) (sub (p 0 k) 0 4)) [p 0,q 0,.i 0,.i (p 0:Int),.i (p 0:Int)] (fun k hk=>?_) ?_ (p 0).rows.length 0 ((p 0).rows.length+1) (by omega) (by omega)
 ·simp only[g9] at e;rw[e];have J:=fx (fun k=>oO (q 0) (sub (p 0 k) 0 4)) (p 0).rows.length 0;cases O:decide (ixF (fun k=>oO (q 0) (sub (p 0 k) 0 4)) 0 (p 0).rows.length>=0)
  ·rw[J O];rfl
  ·rfl
 ·show Eg _ p q [_,_,_,_,.i (k:Int)]=_;rw[aaO];simp only[aE,cy hk,bn hk,aF hk U,g4];unfold oO;cases er (sub (p 0 k) 0 4) [q 0 0 0] [(q 0 0).tail 0] [(q 0 0).tail.tail 0] <;> rfl
 ·show Eg _ p q [_,_,_,.i (p 0:Int),.i (p 0:Int)]=_;rw[aaO];simp only[aE,bF]
abbrev agG:=find [ahu,pv]
abbrev ahk:=[0,1,4]
theorem agY(N:Nat)(p q:b8):aZ f4 agG N ahk Tryz.f158 rb [⟨sd (.sl 93),p⟩,⟨.one (.c (.fn 177 [.cptr [si] 0,.cptr [si] 0,.cptr [si,si] 0])),q⟩]=some (bo,
 ob (leI 0 (ixF (fun k=>oO (.l [[((q 0).rows.getD 0 []) 0,((q 0).rows.getD 0 []).tail 0,((q 0).rows.getD 0 []).tail.tail 0]]) (sub ((p 0).rows.getD k []) 0 4)) 0 (p 0).rows.length))):=by kernel_rfl
def aeM:Ent:=(158,e2 (sd (.sl 93)) (.one (.c (.fn 177 [.cptr [si] 0,.cptr [si] 0,.cptr [si,si] 0]))) fun p q=>(⟨rb,[.b (dK (fun J=>oO (q 0) (sub J 0 4)) (p 0))]⟩,true))
theorem aet:aw f4 aeM:=bj fun p q h=>aq (N:=0) (ks:=ahk) (ap (fC ⟨ahy,fC ⟨sM,fN⟩⟩)) Tryz.func158 fun hw=>by rw[agY];refine congrArg (fun x=>some (bo,ob x)) ?_;exact (iD (fun k=>oO (q 0) (sub (p 0 k) 0 4)) (p 0).rows.length 0).trans (by simp only[i9];rfl)
end Go.Proofs.YtpdfmcmnjikppaaGreat
end
