/-
 Texts of the proof,put together: part 4.
-/
import Derived.Test.YtpdfmcmnjikppaaGreatPR1
import Derived.Test.YtpdfmcmnjikppaaGreatPR2
import Derived.Test.YtpdfmcmnjikppaaGreatPR3
import Derived.Test.YtpdfmcmnjikppaaGreatProg
import Derived.WalkKit
import Derived.ProofKit
import Derived.Shelf.RegionOpenPlain
import Derived.Deep.RegionLaw
import Derived.Deep.LoopGhost
import Derived.Lib.SliceRun
import Derived.Lib.AppendZerosOnto
import Derived.Lib.Hide
import Derived.OwnWalk
set_option linter.unusedSimpArgs false
set_option linter.unusedVariables false
set_option linter.unusedSectionVars false
noncomputable section
namespace Go.Proofs.YtpdfmcmnjikppaaGreat
abbrev i7:=@of_decide_eq_true
abbrev j9:=@Int.natCast_zero
abbrev m7:=@List.mem_range
abbrev y0:=@Bool.eq_iff_iff
abbrev y7:=@Bool.true_and
abbrev B3:=@decide_eq_true
abbrev C1:=@Addr.add_lit
abbrev D3:=@List.any_eq_true
abbrev E6:=@Bool.and_true
abbrev E9:=@beq_eq_false_iff_ne
abbrev G0:=@Region.noSelect_spec
abbrev I1:=@decide_eq_false
abbrev I4:=@List.length_range
abbrev J5:=@List.drop_append_of_le_length
abbrev J9:=@Array.any_eq_true'
abbrev K5:=@Nat.lt_succ_self
abbrev K9:=@Array.setIfInBounds_comm
abbrev L2:=@World.ownsRow_made
abbrev M2:=@List.range_succ_eq_map
abbrev N2:=@Region.free_spec
abbrev O2:=@List.find?_some
abbrev O3:=@List.cons.injEq
end Go.Proofs.YtpdfmcmnjikppaaGreat
namespace Go.Proofs.YtpdfmcmnjikppaaGreat
noncomputable abbrev f8:=Tryz.prog
open Go.RowKit
section
variable {P:Program} {ops:Array Oper}
def QF:Exit->Act->World->Prop:=fun _ _ _=>False
theorem ams{o:Oper}{a:Act}{w:World}{K O:Act->World->Prop}{Q:Exit->Act->World->Prop}(M:∀a w,K a w->O a w)(y:o.wp P a w K QF):o.wp P a w O Q:=by
 unfold Oper.wp at *;generalize (execOp a.eval o).run P w=r at *;cases r with
 | ok n w' =>
  cases n <;> simp only[Oper.upon] at y ⊢
  case value=>exact M _ _ y
  case skip=>exact M _ _ y
  case defer=>exact M _ _ y
  case enter =>
   refine Calls.mono y fun e U J=>?_
   cases e with
   | returned v=>exact M _ _ J
   | panicked c=>exact J.elim
   | outgrown=>obtain⟨_,_,h⟩:=J;exact h.elim
  case row=>exact Rows.mono y fun _ _ J=>M _ _ J
 | halt x w' =>cases x <;> simp only[Oper.upon] at y;exact y.elim
theorem acz{i:Nat}{a:Act}{w:World}{K M:Act->World->Prop}{Q:Exit->Act->World->Prop}(J:∀a w,K a w->M a w)(y:wpOp P ops QF i K a w):wpOp P ops Q i M a w:=by
 unfold wpOp at *
 split
 ·exact J _ _ (by simpa [*] using y)
 ·rename_i o O;simp only[O] at y
  split
  ·rename_i hw;simp only[hw,if_true] at y;rcases y with y | ⟨_,_,_,hl⟩
   ·exact .inl (ams J y)
   ·exact hl.elim
  ·rename_i hw;simp only[hw] at y;exact J _ _ y
def Um(ops:Array Oper)(B:Nat)(i:Nat)(w w':World):Prop:=w.heap.size<=w'.heap.size/\(Om ops i=false->∀o,ops[i]?=some o->(calm o=true->Below w.heap.size w w')/\(rC ops o=true->Below B w w'))
theorem Um.refl{ops:Array Oper}{B i:Nat}{w:World}:Um ops B i w w:=⟨i8 _,fun _ _ _=>⟨fun _=>Below.refl _ _,fun _=>Below.refl _ _⟩⟩
def GD(P:Program)(ops:Array Oper)(B:Nat)(Q:Act->World->Prop):Nat->Array Bool->Act->World->Prop
 | 0,listed,a,w=>Region.ready .any ops listed = []/\Q a w
 | n+1,listed,a,w =>
  (Region.ready .any ops listed = []->Q a w) /\
  ∀i∈Region.ready .any ops listed,wpOp P ops QF i (fun y w'=>Um ops B i w w'/\GD P ops B Q n (listed.setIfInBounds i true) y w') a w
theorem CB{B:Nat}{Q:Act->World->Prop}{M:Exit->Act->World->Prop}(J:∀a w,Q a w->M .normal a w):∀(n:Nat) (y:Array Bool) (a:Act) (w:World),GD P ops B Q n y a w->wpAny P .any ops M n y a w
 | 0,_,_,_,h=>⟨h.1,J _ _ h.2⟩
 | n+1,_,_,_,h=>⟨fun V=>J _ _ (h.1 V),fun i hi=>acz (fun U w' O=>CB J n _ U w' O.2) (h.2 i hi)⟩
def mi(P:Program)(ops:Array Oper)(B:Nat)(o:Oper)(v:Value)(a:Act)(w:World):Prop:=
 (Region.wanted o (yielded ops a.tmps)=true/\∀w',(Below B w w'\/tQ o=true)->(execOp a.eval o).run P w'=.ok (.value v) w')\/(Region.wanted o (yielded ops a.tmps)=false/\v=undef)
theorem mi.wpOp{B i:Nat}{o:Oper}{v:Value}{a:Act}{w:World}{Q:Exit->Act->World->Prop}(hi:ops[i]?=some o)(y:mi P ops B o v a w){K:Act->World->Prop}(h:K (a.put o.dst v) w):wpOp P ops Q i K a w:=by
 unfold Go.wpOp;simp only[hi];rcases y with⟨hw,hv⟩ | ⟨hw,rfl⟩
 ·simp only[hw,if_true,Oper.wp,hv w (.inl (Below.refl _ _)),Oper.upon];exact .inl h
 ·simp only[hw,y4,if_false];exact h
theorem mi.later{B:Nat}{o:Oper}{v:Value}{a:Act}{w w':World}(J:mi P ops B o v a w)(h:Below B w w'\/tQ o=true):mi P ops B o v a w':=by
 rcases J with⟨hw,hv⟩ | J
 ·refine .inl ⟨hw,fun M y=>hv M ?_⟩;rcases h with h | h
  ·exact y.imp (fun y=>h.trans y) id
  ·exact .inr h
 ·exact .inr J
theorem YZ{B j:Nat}{oi y:Oper}{v:Value}{w:World}(hj:ops[j]?=some y)(Z:oi.apart ops y=true)(U:∀cs b,oi.op≠.select cs b)(a0:∀cs b,y.op≠.select cs b){K:Act->World->Prop}{a:Act}
  (hy:mi P ops B oi v a w) (h:wpOp P ops QF j K (a.put oi.dst v) w):wpOp P ops QF j (fun Y w'=>mi P ops B oi v Y w/\K (Y.put oi.dst v) w') a w:=by
 obtain⟨h1,J,V⟩:=Oper.apart_spec Z;have keep:∀u,mi P ops B oi v (a.put y.dst u) w:=fun u=>by unfold mi at *;rw[execOp_put oi U a y.dst u V,wanted_put oi a y.dst u V];exact hy
 unfold wpOp at *;simp only[hj] at *;rw[wanted_put y a oi.dst v h1] at h
 split
 ·rename_i hw;simp only[hw,if_true] at h;rcases h with h | ⟨_,_,_,hl⟩
  ·refine .inl ?_;unfold Oper.wp at *;rw[execOp_put y a0 a oi.dst v h1] at h;generalize (execOp a.eval y).run P w=r at *;cases r with
   | ok n w' =>
    cases n <;> simp only[Oper.upon] at h ⊢
    case value u=>exact⟨keep u,by rw[<- Act.put_comm a v u J];exact h⟩
    case skip=>exact⟨keep _,by rw[<- Act.put_comm a v undef J];exact h⟩
    case defer d =>
     refine⟨?_,?_⟩
     ·have:=keep undef;unfold mi at this ⊢;cases O:y.dst <;> rw[O] at this <;> exact this
     ·rw[<- Act.put_comm _ v undef J,<- Act.put_defers];exact h
    case enter f args =>
     refine Calls.mono h fun e W M=>?_
     cases e with
     | returned u=>exact⟨keep u,by rw[<- Act.put_comm a v u J];exact M⟩
     | panicked c=>exact M.elim
     | outgrown=>exact M
    case row row args=>exact Rows.mono h fun u W M=>⟨keep u,by rw[<- Act.put_comm a v u J];exact M⟩
   | halt x w' =>cases x <;> simp only[Oper.upon] at h;exact h.elim
  ·exact hl.elim
 ·rename_i hw;simp only[hw] at h;exact⟨keep _,by rw[<- Act.put_comm a v undef J];exact h⟩
def yG(ops:Array Oper)(y:Array Bool)(i:Nat)(S:Nat->Bool):Prop:=∀j,S j=true->y.getD j true=false/\∃J,ops[j]?=some J/\∃e∈J.after,Region.binds .any e=true/\(e.on=i\/S e.on=true)
theorem yG.none{ops:Array Oper}{y:Array Bool}{i:Nat}:yG ops y i (fun _=>false):=fun j h=>by cases h
def pf(ops:Array Oper)(y:Array Bool):Prop:=∀k ok,ops[k]?=some ok->y.getD k false=true->∀e∈ok.after,Region.binds .any e=true->y.getD e.on false=true
theorem pf.start(ops:Array Oper):pf ops (Array.replicate ops.size false):=fun k ok hk hl=>by have:=(v8.1 hk).1;simp[this] at hl
theorem pf.step{ops:Array Oper}{y:Array Bool}{i:Nat}(h:pf ops y)(hi:i∈Region.ready .any ops y):pf ops (y.setIfInBounds i true):=fun k ok hk hl e U V=>by
 by_cases M:i=k
 ·subst M;obtain⟨_,o,J,O⟩:=mem_ready.1 hi;rw[hk] at J;injection J with J;subst J
  exact getD_set_true (O e U V)
 ·rw[getD_set_ne false M] at hl;exact getD_set_true (h k ok hk hl e U V)
theorem YE{y:Array Bool}{i:Nat}(h:y.getD i true=false):y.getD i false=true->False:=fun J=>by
 rcases C4 i y.size with hl | hl
 ·simp[hl] at h J;rw[h] at J;cases J
 ·simp[G3 hl] at h
theorem ajz{ops:Array Oper}(h:aaI ops=true){j:Nat}{J:Oper}(y:ops[j]?=some J){e:Edge}(M:e∈J.after):e.on<j:=by have:=i9.1 h j (m7.2 (v8.1 y).1);simp only[y] at this;simpa using Array.all_eq_true_iff_forall_mem.1 this e M
theorem Sx{ops:Array Oper}{y:Array Bool}{i j:Nat}(W:aaI ops=true)(a4:pf ops y)(hi:y.getD i true=false)(h:Us ops i j=true)(hj:j∈Region.ready .any ops y):False:=by
 unfold Us at h;rw[a9] at h;obtain⟨h1,U⟩:=h;have U:∃S,yG ops (Array.replicate ops.size false) i S/\S j=true:=by
  refine⟨fun j=>(WH ops (Array.replicate ops.size false) i).contains j,fun j hj=>?_,U⟩;have:=i9.1 h1 j (A3.1 hj);simp only[a9,o8] at this;obtain⟨h1,U⟩:=this;refine⟨h1,?_⟩
  split at U
  ·rename_i oj Y;obtain⟨e,V,W⟩:=J9.1 U;simp only[a9,B6,u7] at W;exact⟨oj,Y,e,V,W.1,W.2⟩
  ·cases U
 obtain⟨S,hW,a3⟩:=U;have a2:∀k,S k=true->y.getD k false=true->False:=by
  intro k
  induction k using Nat.strongRecOn with
  | _ k ih =>
  intro hk hl;obtain⟨_,ok,a0,e,V,Z,J⟩:=hW k hk;have M:=a4 k ok a0 hl e V Z;rcases J with J | J
  ·rw[J] at M;exact YE hi M
  ·exact ih e.on (ajz W a0 V) J M
 obtain⟨_,oj,Y,e,V,Z,J⟩:=hW j a3;obtain⟨_,a5,O,a1⟩:=mem_ready.1 hj;rw[Y] at O;injection O with O;subst O;have M:=a1 e V Z;rcases J with J | J
 ·rw[J] at M;exact YE hi M
 ·exact a2 e.on J M
theorem aji{ops:Array Oper}{y:Array Bool}{i j:Nat}(J:pf ops y)(hi:i∈Region.ready .any ops y)(O:j∈Region.ready .any ops y)(U:j≠i){oi:Oper}(M:ops[i]?=some oi):Om ops j=false\/tQ oi=true:=by
 cases h:Om ops j with
 | false=>exact .inl rfl
 | true =>
  refine .inr ?_;unfold Om at h;rw[a9] at h;have:=i9.1 h.2 i (m7.2 (v8.1 M).1);simp only[B6,u7,Ne.symm U,false_or,M] at this;rcases this with (h1 | h1) | h1
  ·exact (Sx h.1 J (mem_ready.1 hi).1 h1 O).elim
  ·exact (Sx h.1 J (mem_ready.1 O).1 h1 hi).elim
  ·exact h1
theorem pT{B O:Nat}{Q:Act->World->Prop}{i:Nat}{oi:Oper}{v:Value}{S:Nat->Bool}(hi:ops[i]?=some oi)(a2:∀(j:Nat) (o:Oper) cs b,ops[j]?=some o->o.op≠.select cs b) :
  ∀(n:Nat) (y:Array Bool) (a:Act) (w:World),
   pf ops y->yG ops y i S->(∀j M,ops[j]?=some M->j≠i->y.getD j true=false->S j=false->(∀e∈M.after,Region.binds .any e=true->e.on≠i)->oi.apart ops M=true/\(calm M=true\/rC ops M=true/\O=B))->O<=w.heap.size ->
   i∈Region.ready .any ops y->mi P ops O oi v a w->GD P ops B Q n (y.setIfInBounds i true) (a.put oi.dst v) w->GD P ops B Q (n+1) y a w:=by
 intro n
 induction n with
 | zero =>
  intro y a w _ _ _ _ W hy H;refine⟨fun h=>(by rw[h] at W;cases W),fun j Z=>?_⟩;by_cases J:j=i
  ·subst J;exact hy.wpOp hi ⟨Um.refl,H⟩
  ·have:=ready_mono Z J;rw[H.1] at this;cases this
 | succ n ih =>
  intro y a w b0 hS Y a6 W hy H;refine⟨fun h=>(by rw[h] at W;cases W),fun j Z=>?_⟩;by_cases J:j=i
  ·subst J;exact hy.wpOp hi ⟨Um.refl,H⟩
  ·have h1:=H.2 j (ready_mono Z J);obtain⟨a0,M,V,a3⟩:=mem_ready.1 Z;have a1:∀e∈M.after,Region.binds .any e=true->e.on≠i:=fun e he hb b2=>by
    have h1:=a3 e he hb;have h0:=(mem_ready.1 W).1;rw[b2] at h1;rcases C4 i y.size with h' | h'
    ·simp[h'] at h0 h1;rw[h0] at h1;cases h1
    ·simp[G3 h'] at h1
   have a5:S j=false:=by
    cases c1:S j with
    | false=>rfl
    | true =>
     obtain⟨_,c2,U,e,he,hb,ho⟩:=hS j c1;rw[V] at U;injection U with U;subst U;rcases ho with ho | ho
     ·exact absurd ho (a1 e he hb)
     ·have h1:=a3 e he hb;have h0:=(hS e.on ho).1;rcases C4 e.on y.size with h' | h'
      ·simp[h'] at h0 h1;rw[h0] at h1;cases h1
      ·simp[G3 h'] at h1
   obtain⟨b3,a4⟩:=Y j M V J a0 a5 a1;have h2:=YZ V b3 (fun cs b=>a2 i oi cs b hi) (fun cs b=>a2 j M cs b V) hy h1;refine acz (fun a' w' h3=>?_) h2;obtain⟨h3,h4,h5⟩:=h3;have c0:Below O w w'\/tQ oi=true:=by
    rcases aji b0 W Z J hi with hal | hnm
    ·obtain⟨g1,g2⟩:=h4.2 hal M V;rcases a4 with hc | ⟨hc,rfl⟩
     ·exact .inl ((g1 hc).mono a6)
     ·exact .inl (g2 hc)
    ·exact .inr hnm
   refine⟨h4,ih (y.setIfInBounds j true) a' w' (b0.step Z) (fun k hk=>by
    obtain⟨q1,q2⟩:=hS k hk;refine⟨?_,q2⟩;have b1:j≠k:=fun e=>by rw[<- e,a5] at hk;cases hk
    rw[getD_set_ne true b1];exact q1) (fun k ok hk b5 a8 b6 b4=>?_) (m8 a6 h4.1) (ready_mono W (Ne.symm J)) (h3.later c0) ?_⟩
   ·refine Y k ok hk b5 ?_ b6 b4;by_cases a7:j=k
    ·subst a7;exact a0
    ·rw[getD_set_ne true a7] at a8;exact a8
   ·rw[K9 _ _ J];exact h5
end
section
variable [Low] {P:Program} {w w':World} {g g':G} {base:Nat} {σ:St} {a:Act}
theorem afM{call:FuncId->List T->Option (T × Bool)}{o:Oper}(h:isQ o=true):Io P call σ o=sU P σ o:=by
 obtain⟨dst,op,J,y,after,guard⟩:=o;cases op with
 | assign x =>
  cases x with
  | const v=>cases v with
   | slice A n c =>
    cases A with
    | none=>cases n with
     | zero=>cases c with
      | zero=>simp[isQ] at h
      | succ c=>cases dst <;> rfl
     | succ n=>cases dst <;> rfl
    | some A=>cases dst <;> rfl
   | _=>cases dst <;> rfl
  | _=>cases dst <;> rfl
 | call c =>
  obtain⟨callee,args,ts⟩:=c;cases callee with
  | builtin b=>cases b <;> first | (simp[isQ] at h;done) | rfl
  | _=>simp[isQ] at h
 | _=>first | (simp[isQ] at h;done) | (cases dst <;> rfl)
theorem Em(J:Rel P w g base σ a){o:Oper}{y:St}(M:∀d,o.dst=some d->d<a.tmps.size)(h:sU P σ o=some (y,true)) :
  ∃z,(∀w',(Below w.heap.size w w'\/tQ o=true)->(execOp a.eval o).run P w'=.ok (.value z) w')/\Rel P w g base y (a.put o.dst z):=by
 unfold sU at h
 split at h
 ·rename_i v ok O;simp only[b7,j8] at h;obtain⟨rfl,rfl⟩:=h;obtain⟨z,h1,U⟩:=afH J O;exact⟨z,h1,J.put M U⟩
 ·cases h
structure Yo(o:Oper)(a:Act)(z:Value)(w w':World):Prop where
 calm:calm o=true->Below w.heap.size w w'
 pure:isQ o=true->w'=w
 box:isA o=true->z=.pointer (some ⟨w.heap.size,0,none⟩)
 store:∀t d x B,o.op=.store t (.tmp d) x->(∀b off,a.tmps.getD d undef=.pointer (some ⟨b,off,none⟩)->B<=b)->Below B w w'
theorem agK{call:FuncId->List T->Option (T × Bool)}(y:∀f args r ok,call f args=some (r,ok)->r.sh.isW=false){dst:Option Nat}{f:Operand}{xs:List Operand}{r:St × Bool}(h:afT P call σ dst f xs=some r):False:=by
 unfold afT at h
 split at h
 ·split at h
  ·split at h
   ·rename_i M ok hc;have hw:=y _ _ _ _ hc;rename_i t _ _ _;cases J:(br P _==some [.int .i64]&&t.1 != 1000001) with
    | false=>rw[J] at h;cases h
    | true =>
     rw[J,g6] at h
     split at h
     ·rename_i e;rw[e] at hw;cases hw
     ·rename_i e;rw[e] at hw;cases hw
     ·cases h
   ·cases h
  ·cases h
 ·cases h
theorem ajS{call:FuncId->List T->Option (T × Bool)}(y:∀f args r ok,call f args=some (r,ok)->r.sh.isW=false){dst:Option Nat}{f:Operand}{xs:List Operand}{M:List TypeId}{r:St × Bool}(h:evW P call σ dst f xs M=some r):False:=by
 unfold evW at h
 split at h
 ·rename_i r0 O;exact agK y O
 ·split at h
  ·rename_i r0 hk;clear h;have h:=hk;clear hk;unfold evK at h
   split at h
   ·split at h
    ·split at h
     ·split at h
      ·rename_i J ok hc;have hw:=agM (y _ _ _ _ hc);rw[hw,A9,A9,A9,A9] at h;cases h
      ·cases h
     ·cases h
    ·cases h
   ·cases h
  ·split at h
   ·rename_i r0 hi;clear h;have h:=hi;clear hi;simp[ako] at h
   ·split at h
    ·rename_i r0 hi;clear h;have h:=hi;clear hi;unfold evX at h
     split at h
     ·split at h
      ·split at h
       ·split at h
        ·rename_i J ok hc;have hw:=abC (y _ _ _ _ hc);rw[hw,A9,A9] at h;cases h
        ·cases h
       ·split at h
        ·rename_i J ok hc;have hw:=abC (y _ _ _ _ hc);rw[hw,A9,A9,A9,A9,A9,A9] at h;cases h
        ·cases h
       ·cases h
      ·cases h
     ·cases h
    ·simp[evM] at h
theorem aeG{call:FuncId->List T->Option (T × Bool)}(M:∀f args r ok,call f args=some (r,ok)->r.sh.isW=false){d:Nat}{f:Operand}{xs:List Operand}{J:List TypeId}{r:St × Bool}(h:Yy P call σ d f xs J=some r):False:=by
 unfold Yy at h
 split at h
 ·split at h
  ·split at h
   ·rename_i O ok hc
    split at h
    ·rename_i cs y;have:=M _ _ _ _ hc;rw[y] at this;cases this
    ·cases h
   ·cases h
  ·cases h
 ·cases h
theorem akw{call:FuncId->List T->Option (T × Bool)}(M:∀f args r ok,call f args=some (r,ok)->r.sh.isW=false){d:Nat}{f:Operand}{xs:List Operand}{J:List TypeId}{r:St × Bool}(h:evT P call σ d f xs J=some r):False:=by
 unfold evT at h
 split at h
 ·split at h
  ·split at h
   ·rename_i O ok hc
    split at h
    ·rename_i cs az y hz;have:=M _ _ _ _ hc;rw[y] at this;cases this
    ·cases h
   ·cases h
  ·cases h
 ·cases h
theorem ajQ{call:FuncId->List T->Option (T × Bool)}(y:∀f args r ok,call f args=some (r,ok)->r.sh.isW=false){d:Nat}{f:Operand}{xs:List Operand}{r:St × Bool}(h:evP P call σ d f xs=some r):False:=by
 unfold evP at h
 split at h
 ·split at h
  ·split at h
   ·split at h
    ·split at h
     ·rename_i J ok hc;have hw:=y _ _ _ _ hc
      split at h
      ·rename_i e;rw[e] at hw;cases hw
      ·cases h
     ·cases h
    ·cases h
   ·cases h
  ·cases h
 ·cases h
theorem LX(U:Rel P w g base σ a){call:FuncId->List T->Option (T × Bool)}(a2:av P call)(a0:∀f args r ok,call f args=some (r,ok)->r.sh.isW=false){o:Oper}{a1:St}(O:∀d,o.dst=some d->d<a.tmps.size)(h:Io P call σ o=some (a1,true)) :
  ∀(K:Act->World->Prop) (Q:Exit->Act->World->Prop),(∀z w' g',Rel P w' g' base a1 (a.put o.dst z)->Below base w w'->Yo o a z w w'->K (a.put o.dst z) w')->o.wp P a w K Q:=by
 intro K Q Y;cases hs:(match o.op with | .store _ _ _=>true | _=>false) with
 | true =>
  obtain⟨dst,op,M,y,after,guard⟩:=o;cases op with
  | store t p x =>
   obtain⟨z,w',g',h1,J,V,h4⟩:=Jj (o:=⟨dst,.store t p x,M,y,after,guard⟩) U rfl O (by cases dst <;> exact h);have hA:Yo ⟨dst,.store t p x,M,y,after,guard⟩ a z w w':=⟨fun h=>by cases dst <;> simp[calm,isQ,isC,isA,isM] at h,fun h=>by simp[isQ] at h,fun h=>by cases dst <;> simp[isA] at h,fun t' d x' B W hB=>h4 B fun b o hb=>by
    injection W with _ e2 _
    subst e2;exact hB b o hb⟩
   unfold Oper.wp;rcases h1 with h1 | ⟨h1,rfl⟩
   ·rw[h1];exact Y z w' g' J V hA
   ·rw[h1];exact Y undef w' g' J V hA
  | _=>simp at hs
 | false =>
 have Z:∀t d x,o.op≠.store t d x:=fun t d x e=>by rw[e] at hs;cases hs
 cases hc:calm o with
 | false=>exact uc U a2 O h K Q fun z w' g' h1 J=>Y z w' g' h1 J ⟨fun h=>by rw[hc] at h;(cases h),fun h=>by simp[calm,h] at hc,fun h=>by simp[calm,h] at hc,fun t d x _ e=>absurd e (Z t _ x)⟩
 | true =>
  cases hq:isQ o with
  | true =>rw[afM hq] at h;obtain⟨z,h1,J⟩:=Em U O h;unfold Oper.wp;rw[h1 w (.inl (Below.refl _ _))];exact Y z w g J (Below.refl _ _) ⟨fun _=>Below.refl _ _,fun _=>rfl,fun h=>by obtain⟨dst,op,M,y,after,guard⟩:=o;cases op <;> first | (simp[isQ] at hq;done) | (simp[isA] at h;done),fun t d x _ e=>absurd e (Z t _ x)⟩
  | false =>
   cases ha:isA o with
   | true =>
    obtain⟨dst,op,M,y,after,guard⟩:=o;cases op with
    | alloc t =>
     cases dst with
     | none=>simp[isA] at ha
     | some d =>obtain⟨z,w',g',h1,J,V,h4,h5⟩:=oE (o:=⟨some d,.alloc t,M,y,after,guard⟩) U rfl rfl O h;unfold Oper.wp;rw[h1];exact Y z w' g' J V ⟨fun _=>h4,fun h=>by simp[isQ] at h,fun _=>h5,fun t d x _ e=>absurd e (Z t _ x)⟩
    | _=>simp[isA] at ha
   | false =>
    cases hm:isM o with
    | true =>
     have a5:yA P base a1 o a w:=by
      obtain⟨dst,op,M,y,after,guard⟩:=o;cases dst with
      | none=>cases op <;> first | (simp[isM] at hm;done) | (unfold isM at hm;split at hm <;> simp_all)
      | some d =>
       cases op with
       | box t x=>exact Yf (o:=⟨some d,.box t x,M,y,after,guard⟩) U rfl rfl O h
       | build t ps=>exact NA (o:=⟨some d,.build t ps,M,y,after,guard⟩) U rfl rfl O h
       | buildSlice t n ps =>
        have h:(bif sO call d then nv P σ d t n ps.toList else pZ P σ d t n ps.toList)=some (a1,true):=h;cases a3:sO call d with
        | false=>rw[a3,f9] at h;exact wx (o:=⟨some d,.buildSlice t n ps,M,y,after,guard⟩) U rfl rfl O h
        | true=>rw[a3,g6] at h;exact tZ (o:=⟨some d,.buildSlice t n ps,M,y,after,guard⟩) U rfl rfl O h
       | makeSlice t n c=>exact yX (o:=⟨some d,.makeSlice t n c,M,y,after,guard⟩) U rfl rfl O h
       | assign x =>
        have hx:x=.const (.slice none 0 0):=by
         unfold isM at hm
         split at hm <;> simp_all
        subst hx;exact Yw (o:=⟨some d,.assign (.const (.slice none 0 0)),M,y,after,guard⟩) U rfl rfl O h
       | _=>simp[isM] at hm
     obtain⟨z,w',g',h1,J,V,h4⟩:=a5;have hA:Yo o a z w w':=⟨fun _=>h4,fun h=>(by rw[hq] at h;cases h),fun h=>(by rw[ha] at h;cases h),fun t d x _ e=>absurd e (Z t _ x)⟩;unfold Oper.wp;rcases h1 with h1 | ⟨h1,rfl⟩
     ·rw[h1];exact Y z w' g' J V hA
     ·rw[h1];exact Y undef w' g' J V hA
    | false =>
    have a4:isC o=true:=by simpa [calm,hq,ha,hm] using hc
    obtain⟨dst,op,M,y,after,guard⟩:=o;cases op with
    | call c =>
     obtain⟨callee,args,ts⟩:=c;cases callee with
     | value f =>
      cases dst with
      | none=>simp only[Io,sU,evQ] at h;cases h
      | some d =>
       simp only[Io] at h
       split at h
       ·rename_i r W;exact (ajS a0 W).elim
       ·split at h
        rotate_left
        ·split at h
         ·rename_i r W;exact (aeG a0 W).elim
         ·split at h
          ·rename_i r W;exact (akw a0 W).elim
          ·exact (ajQ a0 h).elim
        rename_i r W;injection h with h
        subst h;exact Sa U a2 rfl rfl O W K Q fun z w' g' h1 J V=>Y z w' g' h1 J ⟨fun _=>V,fun h=>by simp[isQ] at h,fun h=>by simp[isA] at h,fun t d x _ e=>absurd e (Z t _ x)⟩
     | _=>simp[isC] at a4
    | _=>simp[isC] at a4
theorem uM(U:Rel P w g base σ a){ops:Array Oper}(a0:∀o∈ops.toList,∀d,o.dst=some d->d<a.tmps.size){o:Oper}{y k:St->R}{key:Option Dom}{out:Nat × b8}(V:∀d,o.dst=some d->d<a.tmps.size)
  (h:sw ops σ o y k=some (key,some out)) :
  (Region.wanted o (yielded ops a.tmps)=true/\∃J M,Rel P w g base J a/\y J=some (M,some out)) \/
  (Region.wanted o (yielded ops a.tmps)=false/\∃J M,Rel P w g base J (a.put o.dst undef)/\k J=some (M,some out)):=by
 have hw:=zW U a0 (o:=o);have rx:∀ {σ:St},Rel P w g base σ a->Rel P w g base (σ.put o.dst .none_) (a.put o.dst undef):=fun U=>U.put V (t:=.none_) ⟨#[],rfl,rfl,fun j x h=>by simp at h⟩
 unfold sw at h;cases hq:Mx ops σ o with
 | yes=>rw[hq] at h hw;exact .inl ⟨hw,σ,key,U,h⟩
 | no=>rw[hq] at h hw;exact .inr ⟨hw,_,key,rx U,h⟩
 | ask t Z b =>
  rw[hq] at h hw;simp only at h hw;obtain⟨ht,hv,hw⟩:=hw;obtain⟨h1,h2⟩:=od h;have O:∀c:Bool,Z=c->Rel P w g base (σ.put (some t) (.c (.kb c) D0)) a:=fun c hc=>by
   have:=U.put (dst:=some t) (fun d V=>by injection V with V;subst V;exact ht) (t:=.c (.kb c) D0) (v:=.bool Z) (by rw[hc];exact rfl);have e:a.put (some t) (.bool Z)=a:=by
    rw[<- hv];obtain⟨tm,df⟩:=a;simp only[Act.put]
    congr 1
    refine Array.ext_getElem? fun i=>?_
    rw[F3]
    split
    ·rename_i e;subst e;have W:t<tm.size:=ht
     first
      | exact (n8 W).symm
      | (rw[m6 W,A7,n8 W];rfl)
    ·rfl
   rwa [e] at this
  cases Z with
  | true =>
   obtain⟨Y,h1⟩:=h1 rfl;cases b with
   | true=>exact .inl ⟨by rw[hw];rfl,_,Y,O true rfl,h1⟩
   | false=>exact .inr ⟨by rw[hw];rfl,_,Y,rx (O true rfl),h1⟩
  | false =>
   obtain⟨Y,h2⟩:=h2 rfl;cases b with
   | true=>exact .inr ⟨by rw[hw];rfl,_,Y,rx (O false rfl),h2⟩
   | false=>exact .inl ⟨by rw[hw];rfl,_,Y,O false rfl,h2⟩
 | bad=>rw[hq] at h;cases h
theorem agS{ops:Array Oper}{y:Array Bool}{i:Nat}{S:List Nat}(h:Ti ops y i S=true):yG ops y i (fun j=>S.contains j):=by
 intro j U;have:=i9.1 h j (A3.1 U);simp only[a9,o8] at this;obtain⟨h1,J⟩:=this;refine⟨h1,?_⟩
 split at J
 ·rename_i W O;obtain⟨e,V,M⟩:=J9.1 J;simp only[a9,B6,u7] at M;exact⟨W,O,e,V,M.1,M.2⟩
 ·cases J
theorem Xo{ops:Array Oper}{y:Array Bool}{i:Nat}{oi:Oper}(hi:ops[i]?=some oi)(h:yb ops y i=true) :
  isQ oi=true/\∃S,yG ops y i S/\∀j J,ops[j]?=some J->j≠i->y.getD j true=false->S j=false->(∀e∈J.after,Region.binds .any e=true->e.on≠i)->oi.apart ops J=true/\calm J=true:=by
 unfold yb at h;rw[B6] at h;rcases h with h | h
 ·unfold Pq at h;simp only[hi,a9] at h;obtain⟨⟨⟨_,h1⟩,W⟩,Y⟩:=h;refine⟨h1,_,agS W,fun j J U M O hS V=>?_⟩;have:=i9.1 Y j (m7.2 (v8.1 U).1);simp only[U,B6,u7,M,false_or,O,hS,y4,a9] at this;exact this
 ·simp only[hi,a9] at h;obtain⟨⟨h1,W⟩,Y⟩:=h;refine⟨h1,_,yG.none,fun j J U M O _ V=>⟨N2 hi W j J U M O V,?_⟩⟩;have:=i9.1 Y j (m7.2 (v8.1 U).1);simp only[U,B6,u7,M,false_or,O,y4] at this;rcases this with h | h
  ·exact h
  ·obtain⟨e,he,Z⟩:=J9.1 h;simp only[a9,u7] at Z;exact absurd Z.2 (V e he Z.1)
theorem aeC{ops:Array Oper}{y:Array Bool}{i:Nat}{oi:Oper}(hm:FE ops=true)(hi:ops[i]?=some oi)(h:yb ops y i=true) :
  isQ oi=true/\∀j J,ops[j]?=some J->j≠i->y.getD j true=false->(∀e∈J.after,Region.binds .any e=true->e.on≠i)->oi.apart ops J=true:=by
 unfold yb at h;have e:Pq ops y i=false:=by unfold Pq;rw[hi,hm];rfl
 rw[e,G7] at h;simp only[hi,a9] at h;exact⟨h.1.1,fun j J V O U M=>N2 hi h.1.2 j J V O U M⟩
structure aet(σ τ:St):Prop where
 env:∀i,cz i σ.e σ.r=cz i τ.e τ.r
 box:∀i,bS i σ.h=bS i τ.h
theorem Rel.same(y:Rel P w g base σ a){J:St}(h:aet σ J):Rel P w g base J a:=
 ⟨fun i=>by rw[<- h.env i];exact y.env i,fun id cs ds hl=>y.box id cs ds (by rw[h.box id];exact hl),y.fresh,y.base_le,y.defers,y.low,y.mine⟩
theorem MD(d J:Nat)(c:Ce):fL d (fL J c)=fL J (fL d c):=by
 cases c with
 | own t x e=>cases x <;> cases h:(t.1==d) <;> cases y:(t.1==J) <;> simp[fL,h,y]
 | eptr t e off=>cases t with
  | none=>rfl
  | some t=>cases h:(t.1==d) <;> cases y:(t.1==J) <;> simp[fL,h,y]
 | inn t e off V=>cases h:(t.1==d) <;> cases y:(t.1==J) <;> simp[fL,h,y]
 | ptr id off=>cases h:(id==d) <;> cases y:(id==J) <;> simp[fL,h,y]
 | fn f caps =>
  obtain⟨O,h1⟩:∃b,fL d (.fn f caps)=bif b then .fn f caps else .any:=⟨_,rfl⟩
  obtain⟨U,M⟩:∃b,fL J (.fn f caps)=bif b then .fn f caps else .any:=⟨_,rfl⟩
  rw[h1,M];cases O <;> cases U <;> simp only[g6,f9,h1,M] <;> rfl
 | _=>rfl
theorem Sh1.map_map(f y:Ce->Ce)(s:Sh1):(s.map f).map y=s.map (y ∘ f):=by cases s <;> simp[Sh1.map]
theorem Sh.map_map(f y:Ce->Ce)(s:Sh):(s.map f).map y=s.map (y ∘ f):=by
 cases s with
 | one x=>simp[Sh.map,Sh1.map_map]
 | tup xs =>
  simp only[Sh.map,D6]
  congr 1
  refine D4 fun x _=>?_
  exact Sh1.map_map f y x
theorem Za(σ:St)(d i:Nat):cz i (σ.wipe d).e (σ.wipe d).r=⟨(cz i σ.e σ.r).sh.map (fL d),(cz i σ.e σ.r).p⟩:=
 tR (fun t=>⟨t.sh.map (fL d),t.p⟩) (by rfl) σ.e i σ.r
theorem aae(σ:St)(d i:Nat):bS i (σ.wipe d).h=(bS i σ.h).map fun q=>(q.1.map (fL d),q.2):=Tl (fL d) σ i
theorem Cs(f:S->Nat)(d y:Nat)(h:d≠y):∀(row:List S) (i:Nat),(pu f d i row).map (fL y)=pu f d i row
 | [],_=>rfl
 | s::r,i=>by
  simp only[pu,w8,Cs f d y h r (i+1)]
  congr 1
  cases s <;> simp[zC,fL,E9.2 h]
def pz(f:S->Nat)(σ:St)(d:Nat)(row:List S):St:=St.put ⟨(σ.wipe d).r,(σ.wipe d).e,rx d (pu f d 0 row,row.map mz) (σ.wipe d).h⟩ (some d) (.c (.ptr d 0) D0)
theorem ny(f:S->Nat)(σ:St)(d i:Nat)(row:List S):cz i (pz f σ d row).e (pz f σ d row).r=if i=d then .c (.ptr d 0) D0 else⟨(cz i σ.e σ.r).sh.map (fL d),(cz i σ.e σ.r).p⟩:=by
 show cz i (σ.wipe d).e ((d,.c (.ptr d 0) D0)::(σ.wipe d).r)=_;rw[cz];by_cases h:i=d
 ·subst h;simp
 ·rw[j7 h,show (i==d)=false from by simpa using h,f9,Za]
theorem nK(f:S->Nat)(σ:St)(d i:Nat)(row:List S):bS i (pz f σ d row).h=if i=d then some (pu f d 0 row,row.map mz) else (bS i σ.h).map fun q=>(q.1.map (fL d),q.2):=by show bS i (rx d _ (σ.wipe d).h)=_;rw[qA,aae]
theorem TN(f O:S->Nat)(σ:St){d y:Nat}(h:d≠y)(row M:List S):aet (pz f (pz O σ y M) d row) (pz O (pz f σ d row) y M):=by
 refine⟨fun i=>?_,fun i=>?_⟩
 ·rw[ny,ny,ny,ny];by_cases h1:i=d
  ·subst h1;rw[m6 rfl,j7 h,m6 rfl];simp only[Sh.map,Sh1.map,fL];rw[show (i==y)=false from by simpa using h];rfl
  ·by_cases J:i=y
   ·subst J;rw[j7 h1,m6 rfl,m6 rfl];simp only[Sh.map,Sh1.map,fL];rw[show (i==d)=false from by simpa using h1];rfl
   ·rw[j7 h1,j7 J,j7 J,j7 h1];simp only[Sh.map_map]
    congr 2
    funext c;exact MD d y c
 ·rw[nK,nK,nK,nK];by_cases h1:i=d
  ·subst h1;rw[m6 rfl,j7 h,m6 rfl];simp only[C7,Cs _ i y h]
  ·by_cases J:i=y
   ·subst J;rw[j7 h1,m6 rfl,m6 rfl];simp only[C7,Cs _ i d (Ne.symm h)]
   ·rw[j7 h1,j7 J,j7 J,j7 h1];cases bS i σ.h with
    | none=>rfl
    | some q =>
     simp only[C7,D6]
     congr 3
     funext c;exact MD d y c
theorem PM{d:Nat}{b:Bool}{t:TypeId}{y:St}(h:pK P σ d b t=some (y,true)):∃row,y=pz (VR P b) σ d row/\∀M,pK P M d b t=some (pz (VR P b) M d row,true):=by
 unfold pK at h
 split at h
 ·rename_i row J;cases hz:jV P t row with
  | false=>rw[hz] at h;cases h
  | true =>rw[hz] at h;simp only[n4,f9,b7,j8,E2] at h;exact⟨row,h.symm,fun M=>by simp only[pK,J,hz,n4,f9];rfl⟩
 ·cases h
theorem Ul{o:Oper}(h:isA o=true):∃d t,o.op=.alloc t/\o.dst=some d:=by obtain⟨dst,op,J,y,after,guard⟩:=o;cases op <;> cases dst <;> first | (simp[isA] at h;done) | exact⟨_,_,rfl,rfl⟩
theorem Oh{call:FuncId->List T->Option (T × Bool)}{ops:Array Oper}{j:Nat}{o:Oper}{d:Nat}{t:TypeId}{l:List (Nat × Bool)}{k:St->R}{key:Option Dom}{out:Nat × b8}(W:ops[j]?=some o)(M:o.op=.alloc t)(U:o.dst=some d)(Y:o.guard=none)
  (h:nt P call ops ((j,false)::l) σ k=some (key,some out)):∃y,pK P σ d (sO (noW call) d) t=some (y,true)/\∃O,nt P call ops l y k=some (O,some out):=by
 unfold nt at h;simp only[W,sw,Mx,Y,f9] at h;unfold aag at h
 split at h
 ·rename_i y ok Z;obtain⟨V,J⟩:=eM h;subst V;refine⟨y,?_,key,J⟩;rw[<- Z];simp only[Io,M,U]
 ·rw[show isC o=false from by unfold isC;rw[M],A9] at h;cases h
theorem Iq{ops:Array Oper}{y:Array Bool}{i:Nat}{oi:Oper}(hi:ops[i]?=some oi)(h:vr ops y i=true) :
  isQ oi=true/\Fz ops y=true/\∀j J,ops[j]?=some J->j≠i->y.getD j true=false->(∀e∈J.after,Region.binds .any e=true->e.on≠i)->oi.apart ops J=true/\(calm J=true\/rC ops J=true):=by
 unfold vr at h;simp only[hi,a9] at h;obtain⟨⟨⟨h1,Y⟩,h4⟩,Z⟩:=h;refine⟨h1,h4,fun j J W O U M=>⟨N2 hi Y j J W O U M,?_⟩⟩;have:=i9.1 Z j (m7.2 (v8.1 W).1);simp only[W,B6,u7,O,false_or,U,y4] at this;rcases this with h | h
 ·exact h
 ·obtain⟨e,he,V⟩:=J9.1 h;simp only[a9,u7] at V;exact absurd V.2 (M e he V.1)
def ael(ops:Array Oper)(B:Nat)(y:Array Bool)(a:Act):Prop:=
 Ww ops=true->∀j o d,ops[j]?=some o->y.getD j true=true->isA o=true->o.guard=none->o.dst=some d->∃b off,a.tmps.getD d undef=.pointer (some ⟨b,off,none⟩)/\B<=b
theorem ahU{ops:Array Oper}(h:Ww ops=true){i j d:Nat}{oi M:Oper}(hi:ops[i]?=some oi)(y:ops[j]?=some M)(J:i≠j)(O:oi.dst=some d):M.dst≠some d:=by unfold Ww at h;have:=i9.1 (i9.1 h i (m7.2 (v8.1 hi).1)) j (m7.2 (v8.1 y).1);simp only[hi,y,B6,u7,J,false_or,O,Option.isNone_some,y4,I8,ne_eq] at this;exact fun e=>this e.symm
theorem Rk(a:Act)(dst:Option Nat)(d:Nat)(v:Value)(h:dst≠some d):(a.put dst v).tmps.getD d undef=a.tmps.getD d undef:=by
 cases dst with
 | none=>rfl
 | some e =>
  have y:e≠d:=fun J=>h (by rw[J])
  simp[Act.put,F3,y]
theorem ael.step{ops:Array Oper}{B:Nat}{y:Array Bool}{i:Nat}{o:Oper}{z:Value}(h:ael ops B y a)(hi:ops[i]?=some o)(W:∀d,o.dst=some d->d<a.tmps.size)(hz:isA o=true->o.guard=none->∃b off,z=.pointer (some ⟨b,off,none⟩)/\B<=b) :
  ael ops B (y.setIfInBounds i true) (a.put o.dst z):=by
 intro O j oj d J hl V U M;by_cases e:i=j
 ·subst e;rw[hi] at J;injection J with J;subst J
  obtain⟨b,off,rfl,Z⟩:=hz V U;refine⟨b,off,?_,Z⟩;rw[M];exact (Wp a d d _ (W d M)).trans (m6 rfl)
 ·rw[getD_set_ne true e] at hl;obtain⟨b,off,h1,Y⟩:=h O j oj d J hl V U M;exact⟨b,off,by rw[Rk a o.dst d z (ahU O J hi (Ne.symm e) M)];exact h1,Y⟩
theorem om{ops:Array Oper}{y:Array Bool}{i:Nat}(h:Fz ops (y.setIfInBounds i true)=true):Fz ops y=true:=by
 unfold Fz at h ⊢;rw[i9] at h ⊢;intro j J;have:=h j J;by_cases e:i=j
 ·subst e;rcases C4 i y.size with hlt | hge
  ·simp only[B6,o8] at this ⊢;rcases this with h | h
   ·simp[hlt] at h
   ·exact .inr h
  ·rwa [Array.setIfInBounds_eq_of_size_le hge] at this
 ·rwa [getD_set_ne true e] at this
theorem yD{ops:Array Oper}{y:Array Bool}{i:Nat}{o:Oper}(hi:ops[i]?=some o)(h:Fz ops (y.setIfInBounds i true)=true):isQ o=true:=by
 unfold Fz at h;rw[i9] at h;have:=h i (m7.2 (v8.1 hi).1);simp only[hi,B6,o8] at this;rcases this with h | h
 ·rcases C4 i y.size with hlt | hge
  ·simp[hlt] at h
  ·rw[Array.setIfInBounds_eq_of_size_le hge,A7,G3 hge] at h;cases h
 ·exact h
theorem Po{ops:Array Oper}{o:Oper}(h:rC ops o=true):Ww ops=true/\∃t d x,o.op=.store t (.tmp d) x/\∃e∈o.after,Region.binds .any e=true/\∃y,ops[e.on]?=some y/\isA y=true/\y.guard=none/\y.dst=some d:=by
 unfold rC at h
 split at h
 ·rename_i t d x O;simp only[a9] at h;obtain⟨h1,V⟩:=h;obtain⟨e,U,J⟩:=J9.1 V;simp only[a9] at J;obtain⟨J,hm⟩:=J
  split at hm
  ·rename_i y M;simp only[a9,u7,Option.isNone_iff_eq_none] at hm;exact⟨h1,t,d,x,O,e,U,J,y,M,hm.1.1,hm.1.2,hm.2⟩
  ·cases hm
 ·cases h
theorem Yo.grew{ops:Array Oper}{B i:Nat}{y:Array Bool}{o:Oper}{z:Value}(h:Yo o a z w w')(hi:ops[i]?=some o)(hm:i∈Region.ready .any ops y)(hM:ael ops B y a)(Y:w.heap.size<=w'.heap.size):Um ops B i w w':=by
 refine⟨Y,?_⟩;intro _ Z M;rw[hi] at M;injection M with M;subst M
 refine⟨h.calm,fun hs=>?_⟩;obtain⟨a0,t,d,x,W,e,he,hb,Z,M,ha,hg,hd⟩:=Po hs;obtain⟨_,o2,O,V⟩:=mem_ready.1 hm;rw[hi] at O;injection O with O;subst O
 have hl:y.getD e.on true=true:=by
  have U:=V e he hb;rw[A7] at U ⊢;cases hq:y[e.on]? with
  | none=>rfl
  | some b=>rw[hq] at U;exact U
 obtain⟨b,off,h1,h2⟩:=hM a0 e.on Z d M hl ha hg hd;exact h.store t d x B W fun b' a1 J=>by
  rw[h1] at J;injection J with J
  injection J with J
  injection J with J
  omega
theorem tT{q:Nat × Bool}{o:Option (List (Nat × Bool))}{l:List (Nat × Bool)}(h:Xu q o=some l):∃r,o=some r/\l=q::r:=by
 cases o with
 | none=>cases h
 | some r=>simp only[Xu,b7] at h;exact⟨r,rfl,h.symm⟩
theorem iB{ops:Array Oper}{y:Array Bool}{i:Nat}(h:i∈Region.ready .any ops y):∃o,ops[i]?=some o:=by obtain⟨_,o,J,_⟩:=mem_ready.1 h;exact⟨o,J⟩
theorem aez{B:Nat}{call:FuncId->List T->Option (T × Bool)}(c2:av P call){ops:Array Oper}(hs:Region.noSelect ops=true){k:St->R}{out:Nat × b8}{n:Nat}{Q:Act->World->Prop}{w0:World}(g1:∀o∈ops.toList,∀d,o.dst=some d->d<n)
  (hk:∀a7 w' g' a' W,k a7=some (W,some out)->Rel P w' g' base a7 a'->a'.tmps.size=n->Below base w0 w'->Q a' w') :
  ∀(m:Nat) (y:Array Bool) (l:List (Nat × Bool)) (σ:St) (w:World) (g:G) (a:Act) (key:Option Dom),HX ops m y=some l->nt P call ops l σ k=some (key,some out)->Rel P w g base σ a->a.tmps.size=n->Below base w0 w->B<=w.heap.size->(Fz ops y=true->w.heap.size=B)->ael ops B y a->pf ops y->GD P ops B Q m y a w:=by
 intro m
 induction m using Nat.strongRecOn with
 | _ m e8 =>
 cases m with
 | zero =>
  intro y l σ w g a key Y h hr hn hb a0 b2 hM a3;unfold HX at Y
  split at Y
  ·rename_i J;simp only[b7] at Y;subst Y;exact⟨J,hk σ w g a key h hr hn hb⟩
  ·cases Y
 | succ m =>
  have ih:=e8 m (K5 m);intro y l σ w g a key Y h hr hn hb a0 b2 hM a3;unfold HX at Y
  split at Y
  ·rename_i J;simp only[b7] at Y;subst Y;exact⟨fun _=>hk σ w g a key h hr hn hb,fun i hi=>by rw[J] at hi;cases hi⟩
  ·rename_i j r J;have a2:∀o∈ops.toList,∀d,o.dst=some d->d<a.tmps.size:=fun o V d hd=>by rw[hn];exact g1 o V d hd
   split at Y
   ·rename_i i b0;obtain⟨l',Z,rfl⟩:=tT Y;have b1:=O2 b0;have U:i∈Region.ready .any ops y:=by rw[J];exact H1 b0
    obtain⟨o,V⟩:=iB U;have a8:∃c1,c1=w.heap.size/\isQ o=true/\∃S,yG ops y i S/\∀j oj,ops[j]?=some oj->j≠i->y.getD j true=false->S j=false->(∀e∈oj.after,Region.binds .any e=true->e.on≠i)->o.apart ops oj=true/\(calm oj=true\/rC ops oj=true/\c1=B):=by
     have b1:yb ops y i=true\/vr ops y i=true:=by simpa only[B6] using b1
     rcases b1 with he | he
     ·obtain⟨q1,S,qS,q2⟩:=Xo V he;exact⟨_,rfl,q1,S,qS,fun j oj h1 M h3 hs h4=>⟨(q2 j oj h1 M h3 hs h4).1,.inl (q2 j oj h1 M h3 hs h4).2⟩⟩
     ·obtain⟨q1,q0,q2⟩:=Iq V he;refine⟨_,rfl,q1,_,yG.none,fun j oj h1 M h3 _ h4=>⟨(q2 j oj h1 M h3 h4).1,?_⟩⟩;rcases (q2 j oj h1 M h3 h4).2 with h | h
      ·exact .inl h
      ·exact .inr ⟨h,b2 q0⟩
    obtain⟨c1,k3,h8,S,hS,a8⟩:=a8;have hd:∀d,o.dst=some d->d<a.tmps.size:=a2 o (by simpa using C5 V);have c7:isA o=true->False:=fun ha=>by obtain⟨dst,op,ty,d3,after,guard⟩:=o;cases op <;> first | (simp[isQ] at h8;done) | (simp[isA] at ha;done)
    unfold nt at h;simp only[V] at h;rcases uM hr a2 hd h with⟨hw,a4,W,a6,M⟩ | ⟨hw,a4,W,a6,M⟩
    ·simp only[g6] at M;unfold Vb at M
     split at M
     ·rename_i a7 ok he;obtain⟨O,a5⟩:=eM M;subst O;obtain⟨z,hz,k5⟩:=Em a6 hd he;exact pT V (G0 hs) m y a w a3 hS a8 (by omega) U (.inl ⟨hw,by rw[k3];exact fun w' h=>hz w' h⟩) (ih _ l' a7 w g _ W Z a5 k5 (by rw[de];exact hn) hb a0 (fun hq=>b2 (om hq)) (hM.step V hd fun ha _=>(c7 ha).elim) (a3.step U))
     ·cases M
    ·exact pT V (G0 hs) m y a w a3 hS a8 (by omega) U (.inr ⟨hw,rfl⟩) (ih _ l' a4 w g _ W Z M a6 (by rw[de];exact hn) hb a0 (fun hq=>b2 (om hq)) (hM.step V hd fun ha _=>(c7 ha).elim) (a3.step U))
   ·split at Y
    ·obtain⟨l',Z,rfl⟩:=tT Y;have U:j∈Region.ready .any ops y:=by rw[J];simp
     obtain⟨o,V⟩:=iB U;have hd:∀d,o.dst=some d->d<a.tmps.size:=a2 o (by simpa using C5 V);refine⟨fun h0=>(by rw[J] at h0;cases h0),fun i hi=>?_⟩;have:i=j:=by rw[J] at hi;simpa using hi
     subst this;unfold nt at h;simp only[V] at h;unfold wpOp;simp only[V];rcases uM hr a2 hd h with⟨hw,a4,W,a6,M⟩ | ⟨hw,a4,W,a6,M⟩
     ·simp only[f9] at M;unfold aag at M
      split at M
      ·rename_i a7 ok he;obtain⟨O,a5⟩:=eM M;subst O;rw[m6 hw];refine .inl (LX a6 (aiO c2) (fun _ _ _ _ h=>acL h) hd he _ _ fun z w' g' h3 h4 h5=>⟨h5.grew V U hM h4.size,ih _ l' a7 w' g' _ W Z a5 h3 (by rw[de];exact hn) (hb.trans h4) (m8 a0 h4.size) (fun hq=>?_) (hM.step V hd fun ha _=>⟨_,_,h5.box ha,a0⟩) (a3.step U)⟩);rw[h5.pure (yD V hq)];exact b2 (om hq)
      ·cases b5:(isC o&&Om ops i) with
       | false=>rw[b5] at M;cases M
       | true =>
        rw[b5,g6] at M;rw[a9] at b5;unfold II at M
        split at M
        ·rename_i a7 ok he;obtain⟨O,a5⟩:=eM M;subst O;rw[m6 hw];obtain⟨k2,c7⟩:isQ o=false/\isA o=false:=by
          have hc:=b5.1;obtain⟨dst,op,ty,d3,after,guard⟩:=o;cases op with
          | call c =>obtain⟨callee,args,ts⟩:=c;cases callee <;> first | (simp[isC] at hc;done) | exact⟨rfl,rfl⟩
          | _=>simp[isC] at hc
         refine .inl (uc a6 c2 hd he _ _ fun z w' g' h3 h4=>⟨⟨h4.size,fun h=>(by rw[b5.2] at h;cases h)⟩,ih _ l' a7 w' g' _ W Z a5 h3 (by rw[de];exact hn) (hb.trans h4) ?_ (fun hq=>?_) (hM.step V hd fun ha _=>by rw[c7] at ha;cases ha) (a3.step U)⟩)
         ·exact m8 a0 h4.size
         ·have:=yD V hq;rw[k2] at this;cases this
        ·cases M
     ·rw[j7 (by simp[hw])];refine⟨Um.refl,ih _ l' a4 w g _ W Z M a6 (by rw[de];exact hn) hb a0 (fun hq=>b2 (om hq)) (hM.step V hd fun ha hg=>?_) (a3.step U)⟩;unfold Region.wanted at hw;rw[hg] at hw;cases hw
    ·rename_i kk k8;cases b6:Nw ops y j kk with
     | false=>rw[b6] at Y;cases Y
     | true =>
      rw[b6,g6] at Y;obtain⟨l',Z,rfl⟩:=tT Y;have d1:j∈Region.ready .any ops y:=by rw[J];simp
      have k1:kk∈Region.ready .any ops y:=by rw[J];simp
      obtain⟨oj,a1⟩:=iB d1;obtain⟨ok,O⟩:=iB k1;unfold Nw at b6;simp only[a1,O,a9,u7,I8,ne_eq,Option.isNone_iff_eq_none] at b6;obtain⟨⟨⟨⟨⟨⟨c5,d5⟩,c8⟩,e9⟩,d8⟩,d6⟩,e0⟩:=b6;obtain⟨dj,tj,c0,c6⟩:=Ul c5;obtain⟨dk,tk,d4,c9⟩:=Ul d5;have f2:dj≠dk:=fun e=>d8 (by rw[c6,c9,e])
      have b4:∀d,oj.dst=some d->d<a.tmps.size:=a2 oj (by simpa using C5 a1);have d2:∀d,ok.dst=some d->d<a.tmps.size:=a2 ok (by simpa using C5 O)
      -- the HX goes on with the other one
      cases m with
      | zero=>unfold HX at Z;rw[d6] at Z;cases Z
      | succ m =>
       have c4:=Z;unfold HX at c4;rw[d6] at c4;have e7:kk≠j:=by
        intro e;subst e;rw[a1] at O;injection O with O
        subst O;exact d8 rfl
       have g3:isQ oj=false:=by obtain⟨dst,op,ty,d3,after,guard⟩:=oj;cases op <;> first | (simp[isA] at c5;done) | rfl
       have b3:∀ {i:Nat} {o:Oper} {w w':World},ops[i]?=some o->isA o=true->Below w.heap.size w w'->Um ops B i w w':=fun {i o w w'} V ha hbb=>⟨hbb.size,fun _ o' c3=>by
        rw[V] at c3;injection c3 with c3;subst c3
        refine⟨fun _=>hbb,fun k0=>?_⟩;obtain⟨_,t,d,x,k4,_⟩:=Po k0;obtain⟨d',t',d7,_⟩:=Ul ha;rw[k4] at d7;cases d7⟩
       have f1:isQ ok=false:=by obtain⟨dst,op,ty,d3,after,guard⟩:=ok;cases op <;> first | (simp[isA] at d5;done) | rfl
       have b0:List.find? (fun i=>yb ops (y.setIfInBounds j true) i||vr ops (y.setIfInBounds j true) i) [kk]=none:=by simp[List.find?_cons,yb,vr,Pq,O,f1]
       simp only[b0] at c4;obtain⟨l2,i2,rfl⟩:=tT c4;obtain⟨k6,e1,i0,h1⟩:=Oh a1 c0 c6 c8 h;obtain⟨k7,e2,h9,M⟩:=Oh O d4 c9 e9 h1;obtain⟨h6,rfl,aj⟩:=PM e1;obtain⟨f3,rfl,ak⟩:=PM e2;have i4:Region.wanted oj (yielded ops a.tmps)=true:=by unfold Region.wanted;rw[c8]
       have i3:Region.wanted ok (yielded ops a.tmps)=true:=by unfold Region.wanted;rw[e9]
       refine⟨fun h0=>(by rw[J] at h0;cases h0),fun i hi=>?_⟩;have hi:i=j\/i=kk:=by rw[J] at hi;simpa using hi
       rcases hi with rfl | rfl
       ·unfold wpOp;simp only[a1];rw[m6 i4];refine .inl ?_;obtain⟨z,w',g',q1,q2,q3,q4,q5⟩:=oE hr c0 c6 b4 e1;unfold Oper.wp;rw[q1];exact⟨b3 a1 c5 q4,ih _ _ _ w' g' _ i0 Z h1 q2 (by rw[de];exact hn) (hb.trans q3) (m8 a0 q3.size) (fun hq=>absurd (yD a1 hq) (by rw[g3];exact Bool.false_ne_true)) (hM.step a1 b4 fun _ _=>⟨_,_,q5,a0⟩) (a3.step d1)⟩
       ·unfold wpOp;simp only[O];rw[m6 i3];refine .inl ?_;obtain⟨z,w',g',q1,q2,q3,q4,q5⟩:=oE hr d4 c9 d2 (ak σ);unfold Oper.wp;rw[q1];refine⟨b3 O d5 q4,fun h0=>(by rw[e0] at h0;cases h0),fun i' e6=>?_⟩;have:i'=j:=by rw[e0] at e6;simpa using e6
        subst this;have h7:Region.wanted oj (yielded ops (a.put ok.dst z).tmps)=true:=by unfold Region.wanted;rw[c8]
        unfold wpOp;simp only[a1];rw[m6 h7];refine .inl ?_;obtain⟨z2,w2,g2,r1,r2,r3,r4,r5⟩:=oE q2 c0 c6 (fun d hd=>by rw[de];exact b4 d hd) (aj _);unfold Oper.wp;rw[r1];have i1:=hM.step O d2 (z:=z) fun _ _=>⟨_,_,q5,a0⟩
        have f0:=i1.step a1 (fun d hd=>by rw[de];exact b4 d hd) (z:=z2) fun _ _=>⟨_,_,r5,m8 a0 q3.size⟩
        refine⟨b3 a1 c5 r4,?_⟩;rw[K9 _ _ e7];exact e8 m (by omega) _ l2 _ w2 g2 _ h9 i2 M (r2.same (TN _ _ σ f2 h6 f3)) (by rw[de,de];exact hn) ((hb.trans q3).trans r3) (m8 (m8 a0 q3.size) r3.size) (fun hq=>absurd (yD O hq) (by rw[f1];exact Bool.false_ne_true)) (by rw[K9 _ _ e7] at f0;exact f0) ((a3.step d1).step (by rw[d6];simp))
    ·cases Y
theorem alh{o:Oper}{a:Act}{w:World}{K W:Act->World->Prop}{Q V:Exit->Act->World->Prop}(U:∀e a w,Q e a w->V e a w)(O:∀a w,K a w->W a w)(J:o.wp P a w K Q):o.wp P a w W V:=by
 unfold Oper.wp at *;generalize (execOp a.eval o).run P w=r at *;cases r with
 | ok n w' =>
  cases n <;> simp only[Oper.upon] at J ⊢
  case value=>exact O _ _ J
  case skip=>exact O _ _ J
  case defer=>exact O _ _ J
  case enter =>
   refine Calls.mono J fun e Y M=>?_
   cases e with
   | returned v=>exact O _ _ M
   | panicked c=>exact U _ _ _ M
   | outgrown=>obtain⟨x,y,h⟩:=M;exact⟨x,y,U _ _ _ h⟩
  case row=>exact Rows.mono J fun _ _ M=>O _ _ M
 | halt x w' =>cases x <;> simp only[Oper.upon] at J ⊢ <;> first | exact J.elim | exact U _ _ _ J
theorem aga{ops:Array Oper}{i:Nat}{a:Act}{w:World}{K V:Act->World->Prop}{Q O:Exit->Act->World->Prop}(U:∀e a w,Q e a w->O e a w)(M:∀a w,K a w->V a w)(J:wpOp P ops Q i K a w):wpOp P ops O i V a w:=by
 unfold wpOp at *
 split
 ·exact M _ _ (by simpa [*] using J)
 ·rename_i o W;simp only[W] at J
  split
  ·rename_i hw;simp only[hw,if_true] at J;rcases J with J | ⟨x,y,z,hl⟩
   ·exact .inl (alh U M J)
   ·exact .inr ⟨x,y,z,U _ _ _ hl⟩
  ·rename_i hw;simp only[hw] at J;exact M _ _ J
theorem GL{ops:Array Oper}{Q M:Exit->Act->World->Prop}(J:∀e a w,Q e a w->M e a w):∀(n:Nat) (y:Array Bool) (a:Act) (w:World),wpAny P .any ops Q n y a w->wpAny P .any ops M n y a w
 | 0,_,_,_,h=>⟨h.1,J _ _ _ h.2⟩
 | n+1,_,_,_,h=>⟨fun V=>J _ _ _ (h.1 V),fun i hi=>aga J (fun U w' O=>GL J n _ U w' O) (h.2 i hi)⟩
def QN(Q:Act->World->Prop):Exit->Act->World->Prop
 | .normal,a,w=>Q a w
 | _,_,_=>False
theorem ZI{call:FuncId->List T->Option (T × Bool)}(b2:av P call){ops:Array Oper}(hs:Region.noSelect ops=true)(b4:FE ops=true){k:St->R}{out:Nat × b8}{n:Nat}{Q:Act->World->Prop}{w0:World}(b5:∀o∈ops.toList,∀d,o.dst=some d->d<n)
  (hk:∀a3 w' g' a' M,k a3=some (M,some out)->Rel P w' g' base a3 a'->a'.tmps.size=n->Below base w0 w'->Q a' w') :
  ∀(m:Nat) (y:Array Bool) (l:List (Nat × Bool)) (σ:St) (w:World) (g:G) (a:Act) (key:Option Dom),HX ops m y=some l->Di P call ops l σ k=some (key,some out)->Rel P w g base σ a->a.tmps.size=n->Below base w0 w->wpAny P .any ops (QN Q) m y a w:=by
 intro m
 induction m with
 | zero =>
  intro y l σ w g a key U h hr hn hb;unfold HX at U
  split at U
  ·rename_i J;simp only[b7] at U;subst U;exact⟨J,hk σ w g a key h hr hn hb⟩
  ·cases U
 | succ m ih =>
  intro y l σ w g a key U h hr hn hb;unfold HX at U
  split at U
  ·rename_i J;simp only[b7] at U;subst U;exact⟨fun _=>hk σ w g a key h hr hn hb,fun i hi=>by rw[J] at hi;cases hi⟩
  ·rename_i j r J;have Z:∀o∈ops.toList,∀d,o.dst=some d->d<a.tmps.size:=fun o V d hd=>by rw[hn];exact b5 o V d hd
   have a8:∀ {i:Nat} {o:Oper},ops[i]?=some o->tQ o=true\/isC o=true:=fun {i o} V=>by have:=i9.1 b4 o (by simpa using C5 V);simpa using this
   split at U
   ·rename_i i a7;obtain⟨l',a5,rfl⟩:=tT U;have a1:=O2 a7;have a2:i∈Region.ready .any ops y:=by rw[J];exact H1 a7
    obtain⟨o,V⟩:=iB a2;have Y:isQ o=true/\∀j oj,ops[j]?=some oj->j≠i->y.getD j true=false->(∀e∈oj.after,Region.binds .any e=true->e.on≠i)->o.apart ops oj=true:=by
     have a1:yb ops y i=true\/vr ops y i=true:=by simpa only[B6] using a1
     rcases a1 with he | he
     ·exact aeC b4 V he
     ·obtain⟨q1,q0,q2⟩:=Iq V he;exact⟨q1,fun j oj h1 O h3 h4=>(q2 j oj h1 O h3 h4).1⟩
    obtain⟨b6,Y⟩:=Y;have c1:tQ o=true:=by
     rcases a8 V with h' | h'
     ·exact h'
     ·exfalso
      obtain⟨dst,op,ty,c5,after,guard⟩:=o;cases op with
      | call c =>obtain⟨callee,args,ts⟩:=c;cases callee <;> first | (simp[isC] at h';done) | (simp[isQ] at b6;done)
      | _=>simp[isC] at h'
    have hd:∀d,o.dst=some d->d<a.tmps.size:=Z o (by simpa using C5 V);unfold Di at h;simp only[V] at h;rcases uM hr Z hd h with⟨hw,W,M,a0,O⟩ | ⟨hw,W,M,a0,O⟩
    ·simp only[g6] at O;unfold Vb at O
     split at O
     ·rename_i a3 ok he;obtain⟨a6,a4⟩:=eM O;subst a6;obtain⟨z,hz,c3⟩:=Em a0 hd he;exact wpAny_first V (G0 hs) (fun c a w h=>h) m y a w Y a2 (.inl ⟨hw,fun w'=>hz w' (.inr c1)⟩) (ih _ l' a3 w g _ M a5 a4 c3 (by rw[de];exact hn) hb)
     ·cases O
    ·exact wpAny_first V (G0 hs) (fun c a w h=>h) m y a w Y a2 (.inr ⟨hw,rfl⟩) (ih _ l' W w g _ M a5 O a0 (by rw[de];exact hn) hb)
   ·split at U
    ·obtain⟨l',a5,rfl⟩:=tT U;have a2:j∈Region.ready .any ops y:=by rw[J];simp
     obtain⟨o,V⟩:=iB a2;have hd:∀d,o.dst=some d->d<a.tmps.size:=Z o (by simpa using C5 V);refine⟨fun h0=>(by rw[J] at h0;cases h0),fun i hi=>?_⟩;have:i=j:=by rw[J] at hi;simpa using hi
     subst this;unfold Di at h;simp only[V] at h;unfold wpOp;simp only[V];rcases uM hr Z hd h with⟨hw,W,M,a0,O⟩ | ⟨hw,W,M,a0,O⟩
     ·simp only[f9] at O;unfold II at O
      split at O
      ·rename_i a3 ok he;obtain⟨a6,a4⟩:=eM O;subst a6;rw[m6 hw];exact .inl (uc a0 b2 hd he _ _ fun z w' g' h3 h4=>ih _ l' a3 w' g' _ M a5 a4 h3 (by rw[de];exact hn) (hb.trans h4))
      ·cases O
     ·rw[j7 (by simp[hw])];exact ih _ l' W w g _ M a5 O a0 (by rw[de];exact hn) hb
    ·rename_i kk c6;cases b0:Nw ops y j kk with
     | false=>rw[b0] at U;cases U
     | true =>
      exfalso
      have c2:j∈Region.ready .any ops y:=by rw[J];simp
      obtain⟨oj,b3⟩:=iB c2;have c4:kk∈Region.ready .any ops y:=by rw[J];simp
      obtain⟨ok,a6⟩:=iB c4;unfold Nw at b0;simp only[b3,a6,a9] at b0;obtain⟨⟨⟨⟨⟨⟨c0,_⟩,_⟩,_⟩,_⟩,_⟩,_⟩:=b0;obtain⟨dj,tj,b1,_⟩:=Ul c0;have:=a8 b3;obtain⟨dst,op,ty,c5,after,guard⟩:=oj;simp only at b1;subst b1;simp[tQ,isC] at this
    ·cases U
theorem CH{q:Nat × Bool}{o:Option (List (List (Nat × Bool)))}{y:List (List (Nat × Bool))}(h:uR q o=some y):∃l r,o=some (l::r)/\y=(l::r).map (q :: ·):=by
 unfold uR at h
 split at h
 ·cases h
 ·rename_i l r;injection h with h;exact⟨l,r,rfl,h.symm⟩
 ·cases h
theorem adR{a b:Option (List (List (Nat × Bool)))}{J:List (List (Nat × Bool))}(h:Py a b=some J):∃x y,a=some x/\b=some y/\J=x++y:=by
 unfold Py at h
 split at h
 ·rename_i x y;injection h with h;exact⟨x,y,rfl,rfl,h.symm⟩
 ·cases h
theorem Vw{f:Nat->Option (List (List (Nat × Bool)))}:∀ {M:List Nat} {J:List (List (Nat × Bool))},M.foldr (fun i U=>Py (uR (i,false) (f i)) U) (some [])=some J->∀i∈M,∃l r,f i=some (l::r)/\∀x∈(l::r),((i,false)::x)∈J
 | [],J,h,i,hi=>by cases hi
 | j::M,J,h,i,hi=>by
  obtain⟨x,y,h1,W,rfl⟩:=adR h;obtain⟨l,r,h3,rfl⟩:=CH h1;rcases B5.1 hi with rfl | hi
  ·exact⟨l,r,h3,fun x O=>n3.2 (.inl (A8.2 ⟨x,O,rfl⟩))⟩
  ·obtain⟨Z,V,Y,h5⟩:=Vw W i hi;exact⟨Z,V,Y,fun x O=>n3.2 (.inr (h5 x O))⟩
theorem iG{call:FuncId->List T->Option (T × Bool)}{ops:Array Oper}{i:Nat}{q:Bool}{l:List (Nat × Bool)}{o:Oper}(O:ops[i]?=some o){J:St}(h:evS P call ops ((i,q)::l) σ=some (J,true)) :
  (Mx ops σ o=.yes/\∃y,(bif q then sU P σ o else Io P call σ o)=some (y,true)/\evS P call ops l y=some (J,true))\/(Mx ops σ o=.no/\evS P call ops l (σ.put o.dst .none_)=some (J,true)):=by
 unfold evS at h;simp only[O] at h
 split at h
 ·rename_i hw
  split at h
  ·rename_i y ok U
   split at h
   ·rename_i V W M;simp only[b7,j8,a9] at h;obtain⟨rfl,rfl,rfl⟩:=h;exact .inl ⟨hw,y,U,M⟩
   ·cases h
  ·cases h
 ·rename_i hw;exact .inr ⟨hw,h⟩
 ·cases h
theorem aeA{call:FuncId->List T->Option (T × Bool)}(b1:av P call)(c1:∀f args r ok,call f args=some (r,ok)->r.sh.isW=false){ops:Array Oper}(hs:Region.noSelect ops=true){F:St->Prop}{n B:Nat}{Q:Act->World->Prop}{w0:World}(b3:∀o∈ops.toList,∀d,o.dst=some d->d<n)
  (hk:∀a6 w' g' a',F a6->Rel P w' g' base a6 a'->a'.tmps.size=n->Below base w0 w'->Q a' w') :
  ∀(m:Nat) (y:Array Bool) (ls:List (List (Nat × Bool))) (σ:St) (w:World) (g:G) (a:Act),Hh ops m y=some ls->(∀l∈ls,∃V,evS P call ops l σ=some (V,true)/\F V)->Rel P w g base σ a->a.tmps.size=n->Below base w0 w->B<=w.heap.size->(Fz ops y=true->w.heap.size=B)->ael ops B y a->pf ops y->GD P ops B Q m y a w:=by
 intro m
 induction m with
 | zero =>
  intro y ls σ w g a Y h hr hn hb a5 a4 hM a3;unfold Hh at Y
  split at Y
  ·rename_i J;injection Y with Y
   subst Y;obtain⟨V,h1,h2⟩:=h [] (by simp);injection h1 with h1
   injection h1 with h1 _
   subst h1;exact⟨J,hk _ w g a h2 hr hn hb⟩
  ·cases Y
 | succ m ih =>
  intro y ls σ w g a Y h hr hn hb a5 a4 hM a3;have a0:∀o∈ops.toList,∀d,o.dst=some d->d<a.tmps.size:=fun o M d hd=>by rw[hn];exact b3 o M d hd
  unfold Hh at Y
  split at Y
  ·rename_i J;injection Y with Y
   subst Y;obtain⟨V,h1,h2⟩:=h [] (by simp);injection h1 with h1
   injection h1 with h1 _
   subst h1;exact⟨fun _=>hk _ w g a h2 hr hn hb,fun i hi=>by rw[J] at hi;cases hi⟩
  ·rename_i j r J
   split at Y
   ·rename_i i b0;obtain⟨l0,r0,a7,rfl⟩:=CH Y;have a1:=O2 b0;have a2:i∈Region.ready .any ops y:=by rw[J];exact H1 b0
    obtain⟨o,M⟩:=iB a2;have Z:∃a8,a8=w.heap.size/\isQ o=true/\∃S,yG ops y i S/\∀j oj,ops[j]?=some oj->j≠i->y.getD j true=false->S j=false->(∀e∈oj.after,Region.binds .any e=true->e.on≠i)->o.apart ops oj=true/\(calm oj=true\/rC ops oj=true/\a8=B):=by
     have a1:yb ops y i=true\/vr ops y i=true:=by simpa only[B6] using a1
     rcases a1 with he | he
     ·obtain⟨q1,S,qS,q2⟩:=Xo M he;exact⟨_,rfl,q1,S,qS,fun j oj h1 h2 h3 hs h4=>⟨(q2 j oj h1 h2 h3 hs h4).1,.inl (q2 j oj h1 h2 h3 hs h4).2⟩⟩
     ·obtain⟨q1,q0,q2⟩:=Iq M he;refine⟨_,rfl,q1,_,yG.none,fun j oj h1 h2 h3 _ h4=>⟨(q2 j oj h1 h2 h3 h4).1,?_⟩⟩;rcases (q2 j oj h1 h2 h3 h4).2 with h | h
      ·exact .inl h
      ·exact .inr ⟨h,a4 q0⟩
    obtain⟨a8,c2,b6,S,hS,Z⟩:=Z;have hd:∀d,o.dst=some d->d<a.tmps.size:=a0 o (by simpa using C5 M);have b2:isA o=true->False:=fun ha=>by obtain⟨dst,op,ty,c5,after,guard⟩:=o;cases op <;> first | (simp[isQ] at b6;done) | (simp[isA] at ha;done)
    have hh:∀l∈(l0::r0),∃V,evS P call ops ((i,true)::l) σ=some (V,true)/\F V:=fun l hl=>h _ (A8.2 ⟨l,hl,rfl⟩)
    have hw:=zW hr a0 (o:=o);obtain⟨c4,e0,_⟩:=hh l0 (by simp);rcases iG M e0 with⟨U,a6,he,_⟩ | ⟨U,_⟩
    ·rw[U] at hw;rw[g6] at he;obtain⟨z,hz,c3⟩:=Em hr hd he;refine pT M (G0 hs) m y a w a3 hS Z (by omega) a2 (.inl ⟨hw,by rw[c2];exact fun w' h=>hz w' h⟩) (ih _ _ a6 w g _ a7 (fun l hl=>?_) c3 (by rw[de];exact hn) hb a5 (fun U=>a4 (om U)) (hM.step M hd fun ha _=>(b2 ha).elim) (a3.step a2));obtain⟨V,e,hF⟩:=hh l hl;rcases iG M e with⟨_,b4,O,e'⟩ | ⟨W,_⟩
     ·rw[g6,he] at O;injection O with O;injection O with O _
      subst O;exact⟨V,e',hF⟩
     ·rw[U] at W;cases W
    ·rw[U] at hw;refine pT M (G0 hs) m y a w a3 hS Z (by omega) a2 (.inr ⟨hw,rfl⟩) (ih _ _ _ w g _ a7 (fun l hl=>?_) (hr.put hd (t:=.none_) ⟨#[],rfl,rfl,fun j x h=>by simp at h⟩) (by rw[de];exact hn) hb a5 (fun U=>a4 (om U)) (hM.step M hd fun ha _=>(b2 ha).elim) (a3.step a2));obtain⟨V,e,hF⟩:=hh l hl;rcases iG M e with⟨W,_⟩ | ⟨_,e'⟩
     ·rw[U] at W;cases W
     ·exact⟨V,e',hF⟩
   ·refine⟨fun h0=>(by rw[J] at h0;cases h0),fun i hi=>?_⟩;have c0:i∈j::r:=by rw[J] at hi;exact hi
    obtain⟨l0,r0,a7,b5⟩:=Vw Y i c0;obtain⟨o,M⟩:=iB hi;have hd:∀d,o.dst=some d->d<a.tmps.size:=a0 o (by simpa using C5 M);have hh:∀l∈(l0::r0),∃V,evS P call ops ((i,false)::l) σ=some (V,true)/\F V:=fun l hl=>h _ (b5 l hl)
    have hw:=zW hr a0 (o:=o);obtain⟨c4,e0,_⟩:=hh l0 (by simp);unfold wpOp;simp only[M];rcases iG M e0 with⟨U,a6,he,_⟩ | ⟨U,_⟩
    ·rw[U] at hw;rw[f9] at he;rw[m6 hw];refine .inl (LX hr b1 c1 hd he _ _ fun z w' g' h3 h4 h5=>⟨h5.grew M hi hM h4.size,ih _ _ a6 w' g' _ a7 (fun l hl=>?_) h3 (by rw[de];exact hn) (hb.trans h4) (m8 a5 h4.size) (fun U=>?_) (hM.step M hd fun ha _=>⟨_,_,h5.box ha,a5⟩) (a3.step hi)⟩)
     ·obtain⟨V,e,hF⟩:=hh l hl;rcases iG M e with⟨_,b4,O,e'⟩ | ⟨W,_⟩
      ·rw[f9,he] at O;injection O with O;injection O with O _
       subst O;exact⟨V,e',hF⟩
      ·rw[U] at W;cases W
     ·rw[h5.pure (yD M U)];exact a4 (om U)
    ·rw[U] at hw;rw[j7 (by simp[hw])];refine⟨Um.refl,ih _ _ _ w g _ a7 (fun l hl=>?_) (hr.put hd (t:=.none_) ⟨#[],rfl,rfl,fun j x h=>by simp at h⟩) (by rw[de];exact hn) hb a5 (fun U=>a4 (om U)) (hM.step M hd fun ha hg=>?_) (a3.step hi)⟩
     ·obtain⟨V,e,hF⟩:=hh l hl;rcases iG M e with⟨W,_⟩ | ⟨_,e'⟩
      ·rw[U] at W;cases W
      ·exact⟨V,e',hF⟩
     ·unfold Region.wanted at hw;rw[hg] at hw;cases hw
theorem JW:∀ {e:Env} {i:Nat},i ∉ e.map (·.1)->dL i e=.any
 | [],_,_=>rfl
 | (j,v)::e,i,h=>by simp only[w8,B5,not_or] at h;rw[dL,show (i==j)=false from by simpa using h.1,f9];exact JW h.2
theorem vB:∀ {r e:Env} {i:Nat},i ∉ r.map (·.1)->i ∉ e.map (·.1)->cz i e r=.any
 | [],_,_,_,h=>JW h
 | (j,v)::r,e,i,h,h'=>by simp only[w8,B5,not_or] at h;rw[cz,show (i==j)=false from by simpa using h.1,f9];exact vB h.2 h'
theorem wc:∀ {h:ul} {i:Nat},i ∉ h.map (·.1)->bS i h=none
 | [],_,_=>rfl
 | (j,v)::e,i,h=>by simp only[w8,B5,not_or] at h;rw[bS,show (i==j)=false from by simpa using h.1,f9];exact wc h.2
theorem Hz{M O:Type}{f J:M->O}:∀ {l:List M},l.map f=l.map J->∀x∈l,f x=J x
 | [],_,x,hx=>by cases hx
 | y::l,h,x,hx=>by
  simp only[w8,O3] at h;rcases B5.1 hx with rfl | hx
  ·exact h.1
  ·exact Hz h.2 x hx
theorem ajR{σ y:St}(h1:TV σ y=true)(J:em (aju σ y) (Vx σ y)=true):aet y σ:=by
 have J:aju σ y=Vx σ y:=by unfold em at J;exact @i7 _ (Classical.propDecidable _) J
 unfold TV at h1;simp only[a9,i9] at h1;obtain⟨Z,s2⟩:=h1;unfold aju Vx at J;have M:∀ {U β:Type} (f O:U->β) (l:List U),(l.map f).length=(l.map O).length:=fun f O l=>by simp
 obtain⟨W,Y⟩:=List.append_inj J (M _ _ _);refine⟨fun i=>?_,fun i=>?_⟩
 ·by_cases hi:i∈FW σ y
  ·have e1:=Z i hi;have e1:(cz i σ.e σ.r).sh=(cz i y.e y.r).sh:=by simpa using e1
   have e2:=Hz W i hi;generalize cz i σ.e σ.r=u at *;generalize cz i y.e y.r=v at *;cases u;cases v;simp_all
  ·simp only[FW,List.mem_eraseDups,n3,not_or] at hi;rw[vB hi.1.1 hi.1.2,vB hi.2.1 hi.2.2]
 ·by_cases hi:i∈yq σ y
  ·have e1:=s2 i hi;have e1:(bS i σ.h).map (·.1)=(bS i y.h).map (·.1):=by simpa using e1
   have e2:=Hz Y i hi;cases V:bS i σ.h with
   | none =>
    rw[V] at e1;cases hv:bS i y.h with
    | none=>rfl
    | some v=>rw[hv] at e1;cases e1
   | some u =>
    rw[V] at e1 e2;cases hv:bS i y.h with
    | none=>rw[hv] at e1;cases e1
    | some v =>
     rw[hv] at e1 e2;simp only[C7,b7,z6] at e1 e2;obtain⟨u1,u2⟩:=u;obtain⟨v1,v2⟩:=v
     simp_all
  ·simp only[yq,List.mem_eraseDups,n3,not_or] at hi;rw[wc hi.1,wc hi.2]
theorem Hc{call:FuncId->List T->Option (T × Bool)}{ops:Array Oper}{J:St}{r:R}{out:Nat × b8}:∀ {U:List (List (Nat × Bool))} {key:Option Dom},TI P call ops σ J U r=some (key,some out) ->
  r=some (key,some out)/\∀l∈U,∃y,evS P call ops l σ=some (y,true)/\aet y J
 | [],key,h=>⟨h,fun l hl=>by cases hl⟩
 | l::U,key,h=>by
  unfold TI at h
  split at h
  ·rename_i y ok Y;cases hsh:TV J y with
   | false=>rw[hsh] at h;cases h
   | true =>
    rw[hsh,g6] at h;obtain⟨O,M⟩:=eM h;simp only[a9] at O;obtain⟨rfl,V⟩:=O;obtain⟨h1,W⟩:=Hc M;exact⟨h1,fun Z hl=>by
     rcases B5.1 hl with rfl | hl
     ·exact⟨y,Y,ajR hsh V⟩
     ·exact W Z hl⟩
  ·cases h
theorem zK(J:Rel P w g base σ a):Rel P { w with drawn:=w.drawn+1 } g base σ a:=by
 have hE:Ext (some 0) g g w { w with drawn:=w.drawn+1 }:=⟨i8 _,fun _ _=>rfl,fun _ _=>⟨rfl,rfl,rfl,rfl⟩,fun _ _=>rfl,fun _ _=>rfl,fun _ _=>rfl,fun _ _=>⟨rfl,rfl⟩,rfl,fun _ _ _ h=>.inr h⟩;have y:Ext none g g w { w with drawn:=w.drawn+1 }:=⟨i8 _,fun _ _=>rfl,fun _ _=>⟨rfl,rfl,rfl,rfl⟩,fun _ _=>rfl,fun _ _=>rfl,fun _ _=>rfl,fun _ _=>⟨rfl,rfl⟩,rfl,fun _ _ _ h=>.inr h⟩;have hk:jr P base g g w { w with drawn:=w.drawn+1 } (fun c=>c):=by
  intro c x v hv;cases c with
  | any=>trivial
  | d s=>exact y.vd hv
  | kb b=>exact hv
  | own t xm e =>obtain⟨row,a0,Y⟩:=hv;exact⟨row,a0,y.own (by intro e;cases e) Y⟩
  | ptr id off=>exact hv
  | eptr tk e off=>cases tk with
   | none =>obtain⟨row,b,o,h1,O,U,h4⟩:=hv;exact⟨row,b,o,h1,O,U,fun j s hs=>by obtain⟨u,W,k2,Z⟩:=h4 j s hs;exact⟨u,W,k2,y.vd Z⟩⟩
   | some t =>obtain⟨row,h1,O,U,u,h4⟩:=hv;exact⟨row,h1,O,U,u,y.own (by intro e;cases e) h4⟩
  | inn t e off ei=>exact oG hv rfl (fun o _ ho=>ho) (fun hu=>y.own (by intro e;cases e) hu)
  | cptr cells off=>exact y.cptr J.base_le hv
  | fn f caps =>
   obtain⟨V,h1,O,U⟩:=hv;refine⟨V,h1,O,fun j c hc=>?_⟩;obtain⟨u,hu,M⟩:=U j c hc;refine⟨u,hu,?_⟩;cases c with
   | d s=>exact y.vd M
   | ptr id off=>exact M
   | cptr cells off=>exact y.cptr J.base_le M
 refine⟨fun i=>hk.vt' (J.env i),fun id cs ds h=>?_,J.fresh,J.base_le,J.defers,J.low,J.mine⟩;obtain⟨W,k2,Z,kl,V,E,k4,k5⟩:=J.box id cs ds h;have:=hk.vcs k5;rw[List.map_id'] at this;exact⟨W,k2,Z,kl,V,E,k4,this⟩
theorem Zn{call:FuncId->List T->Option (T × Bool)}(a5:av P call){ops:Array Oper}(hs:Region.noSelect ops=true){F:St->Prop}{n:Nat}{Q:Act->World->Prop}{w0:World}(a6:∀o∈ops.toList,∀d,o.dst=some d->d<n)
  (hk:∀a0 w' g' a',F a0->Rel P w' g' base a0 a'->a'.tmps.size=n->Below base w0 w'->Q a' w') :
  ∀(m:Nat) (y:Array Bool) (ls:List (List (Nat × Bool))) (σ:St) (w:World) (g:G) (a:Act),zz ops m y=some ls->(∀l∈ls,∃O,evS P call ops l σ=some (O,true)/\F O)->Rel P w g base σ a->a.tmps.size=n->Below base w0 w->wpAny P .any ops (QN Q) m y a w:=by
 intro m
 induction m with
 | zero =>
  intro y ls σ w g a W h hr hn hb;unfold zz at W
  split at W
  ·rename_i J;injection W with W
   subst W;obtain⟨O,h1,h2⟩:=h [] (by simp);injection h1 with h1
   injection h1 with h1 _
   subst h1;exact⟨J,hk _ w g a h2 hr hn hb⟩
  ·cases W
 | succ m ih =>
  intro y ls σ w g a W h hr hn hb;have Y:∀o∈ops.toList,∀d,o.dst=some d->d<a.tmps.size:=fun o V d hd=>by rw[hn];exact a6 o V d hd
  unfold zz at W
  split at W
  ·rename_i J;injection W with W
   subst W;obtain⟨O,h1,h2⟩:=h [] (by simp);injection h1 with h1
   injection h1 with h1 _
   subst h1;exact⟨fun _=>hk _ w g a h2 hr hn hb,fun i hi=>by rw[J] at hi;cases hi⟩
  ·rename_i j r J
   split at W
   ·rename_i i a4;obtain⟨l0,r0,a1,rfl⟩:=CH W;have Z:=O2 a4;have a2:i∈Region.ready .any ops y:=by rw[J];exact H1 a4
    obtain⟨o,V⟩:=iB a2;unfold ahT at Z;simp only[V,a9] at Z;obtain⟨⟨b5,b1⟩,b2⟩:=Z;have a3:∀j oj,ops[j]?=some oj->j≠i->y.getD j true=false->(∀e∈oj.after,Region.binds .any e=true->e.on≠i)->o.apart ops oj=true:=fun j oj h1 h2 h3 h4=>N2 V b2 j oj h1 h2 h3 h4
    have hd:∀d,o.dst=some d->d<a.tmps.size:=Y o (by simpa using C5 V);have hh:∀l∈(l0::r0),∃O,evS P call ops ((i,true)::l) σ=some (O,true)/\F O:=fun l hl=>h _ (A8.2 ⟨l,hl,rfl⟩)
    have hw:=zW hr Y (o:=o);obtain⟨b4,e0,_⟩:=hh l0 (by simp);rcases iG V e0 with⟨hq,a0,he,_⟩ | ⟨hq,_⟩
    ·rw[hq] at hw;rw[g6] at he;obtain⟨z,hz,b3⟩:=Em hr hd he;refine wpAny_first V (G0 hs) (fun c a w h=>h) m y a w a3 a2 (.inl ⟨hw,fun w'=>hz w' (.inr b1)⟩) (ih _ _ a0 w g _ a1 (fun l hl=>?_) b3 (by rw[de];exact hn) hb);obtain⟨O,e,hF⟩:=hh l hl;rcases iG V e with⟨_,a7,M,e'⟩ | ⟨U,_⟩
     ·rw[g6,he] at M;injection M with M;injection M with M _
      subst M;exact⟨O,e',hF⟩
     ·rw[hq] at U;cases U
    ·rw[hq] at hw;refine wpAny_first V (G0 hs) (fun c a w h=>h) m y a w a3 a2 (.inr ⟨hw,rfl⟩) (ih _ _ _ w g _ a1 (fun l hl=>?_) (hr.put hd (t:=.none_) ⟨#[],rfl,rfl,fun j x h=>by simp at h⟩) (by rw[de];exact hn) hb);obtain⟨O,e,hF⟩:=hh l hl;rcases iG V e with⟨U,_⟩ | ⟨_,e'⟩
     ·rw[hq] at U;cases U
     ·exact⟨O,e',hF⟩
   ·refine⟨fun h0=>(by rw[J] at h0;cases h0),fun i hi=>?_⟩;have b0:i∈j::r:=by rw[J] at hi;exact hi
    obtain⟨l0,r0,a1,a8⟩:=Vw W i b0;obtain⟨o,V⟩:=iB hi;have hd:∀d,o.dst=some d->d<a.tmps.size:=Y o (by simpa using C5 V);have hh:∀l∈(l0::r0),∃O,evS P call ops ((i,false)::l) σ=some (O,true)/\F O:=fun l hl=>h _ (a8 l hl)
    have hw:=zW hr Y (o:=o);obtain⟨b4,e0,_⟩:=hh l0 (by simp);unfold wpOp;simp only[V];rcases iG V e0 with⟨hq,a0,he,_⟩ | ⟨hq,_⟩
    ·rw[hq] at hw;rw[f9] at he;rw[m6 hw];refine .inl (uc hr a5 hd he _ _ fun z w' g' h3 h4=>ih _ _ a0 w' g' _ a1 (fun l hl=>?_) h3 (by rw[de];exact hn) (hb.trans h4));obtain⟨O,e,hF⟩:=hh l hl;rcases iG V e with⟨_,a7,M,e'⟩ | ⟨U,_⟩
     ·rw[f9,he] at M;injection M with M;injection M with M _
      subst M;exact⟨O,e',hF⟩
     ·rw[hq] at U;cases U
    ·rw[hq] at hw;rw[j7 (by simp[hw])];refine ih _ _ _ w g _ a1 (fun l hl=>?_) (hr.put hd (t:=.none_) ⟨#[],rfl,rfl,fun j x h=>by simp at h⟩) (by rw[de];exact hn) hb;obtain⟨O,e,hF⟩:=hh l hl;rcases iG V e with⟨U,_⟩ | ⟨_,e'⟩
     ·rw[hq] at U;cases U
     ·exact⟨O,e',hF⟩
theorem Bq{call:FuncId->List T->Option (T × Bool)}(U:av P call){id:Nat}{ops:Array Oper}{k:St->R}{key:Option Dom}{out:Nat × b8}{n:Nat}{Q:Exit->Act->World->Prop}{w0:World}(W:∀o∈ops.toList,∀d,o.dst=some d->d<n)
  (hk:∀J w' g' y V,k J=some (V,some out)->Rel P w' g' base J y->y.tmps.size=n->Below base w0 w'->Q .normal y w') (hc:Region.noSelect ops=true/\P.follows .mixedOrders=true) (h:Ds P call ops σ k=some (key,some out)) (hr:Rel P w g base σ a) (hn:a.tmps.size=n) (hb:Below base w0 w):(Code.region id ops true).wp P Q a w:=by
 unfold Ds at h
 split at h
 ·rename_i ls Y;unfold abG at h
  split at h
  ·cases h
  ·rename_i l0 ls
   split at h
   ·rename_i M ok he;obtain⟨Z,O⟩:=eM h;subst Z;obtain⟨h1,h2⟩:=Hc O;refine wp_region_any hc.2 (GL (Q:=QN fun a w=>Q .normal a w) (fun e a w h=>?_) _ _ _ _ ?_)
    ·cases e <;> first | exact h | exact h.elim
    ·exact Zn (F:=fun τ=>aet τ M) U hc.1 W (fun J w' g' y h3 h4 h5 h6=>hk M w' g' y key h1 (h4.same h3) h5 h6) ops.size _ _ σ _ g a Y (fun l' hl=>by
      rcases B5.1 hl with rfl | hl
      ·exact⟨M,he,⟨fun _=>rfl,fun _=>rfl⟩⟩
      ·exact h2 l' hl) (zK hr) hn (hb.trans ⟨rfl,rfl,rfl,i8 _,fun _ _=>rfl⟩)
   ·cases h
 ·cases h
theorem SJ{call:FuncId->List T->Option (T × Bool)}(y:av P call){id:Nat}{ops:Array Oper}{k:St->R}{key:Option Dom}{out:Nat × b8}{n:Nat}{Q:Exit->Act->World->Prop}{w0:World}(J:∀o∈ops.toList,∀d,o.dst=some d->d<n)
  (hk:∀O w' g' U M,k O=some (M,some out)->Rel P w' g' base O U->U.tmps.size=n->Below base w0 w'->Q .normal U w') (h:BA P call ops σ k=some (key,some out)) (W:Rel P w g base σ a) (Y:a.tmps.size=n) (V:Below base w0 w):(Code.region id ops true).wp P Q a w:=by
 unfold BA at h;cases hc:(Region.noSelect ops&&P.follows .mixedOrders) with
 | false=>rw[hc] at h;cases h
 | true =>
  rw[hc,g6] at h;simp only[a9] at hc
  split at h
  ·rename_i l hp;cases a1:FE ops with
   | true =>
    rw[a1,g6] at h;refine wp_region_any hc.2 (GL (Q:=QN fun a w=>Q .normal a w) (fun e a w h=>?_) _ _ _ _ ?_)
    ·cases e <;> first | exact h | exact h.elim
    ·exact ZI y hc.1 a1 J (fun O w' g' U M h1 Z h3 h4=>hk O w' g' U M h1 Z h3 h4) ops.size _ l σ _ g a key hp h (zK W) Y (V.trans ⟨rfl,rfl,rfl,i8 _,fun _ _=>rfl⟩)
   | false =>
   rw[a1,f9] at h
   split at h
   rotate_left
   ·exact Bq y J hk hc h W Y V
   rename_i r0 hA;injection h with h
   subst h;have h:=hA;refine wp_region_any hc.2 (CB (B:=w.heap.size) (Q:=fun a w=>Q .normal a w) (fun _ _ h=>h) _ _ _ _ ?_);exact aez (B:=w.heap.size) y hc.1 J (fun O w' g' U M h1 Z h3 h4=>hk O w' g' U M h1 Z h3 h4) ops.size _ l σ _ g a key hp h (zK W) Y (V.trans ⟨rfl,rfl,rfl,i8 _,fun _ _=>rfl⟩) (i8 _) (fun _=>rfl) (fun _ j o d hj hl=>by have a0:=(v8.1 hj).1;simp[a0] at hl) (pf.start ops)
  ·split at h
   rotate_left
   ·exact Bq y J hk hc h W Y V
   ·rename_i ls hp
    split at h
    rotate_left
    ·exact Bq y J hk hc h W Y V
    rename_i r0 hA;injection h with h
    subst h;have h:=hA;unfold abG at h
    split at h
    ·cases h
    ·rename_i l ls
     split at h
     ·rename_i a2 ok he;obtain⟨a4,a3⟩:=eM h;subst a4;obtain⟨h1,Z⟩:=Hc a3;refine wp_region_any hc.2 (CB (B:=w.heap.size) (Q:=fun a w=>Q .normal a w) (fun _ _ h=>h) _ _ _ _ ?_);exact aeA (B:=w.heap.size) (F:=fun τ=>aet τ a2) (aiO y) (fun _ _ _ _ h=>acL h) hc.1 J (fun O w' g' U h3 h4 h5 h6=>hk a2 w' g' U key h1 (h4.same h3) h5 h6) ops.size _ _ σ _ g a hp (fun l' hl=>by
       rcases B5.1 hl with rfl | hl
       ·exact⟨a2,he,⟨fun _=>rfl,fun _=>rfl⟩⟩
       ·exact Z l' hl) (zK W) Y (V.trans ⟨rfl,rfl,rfl,i8 _,fun _ _=>rfl⟩) (i8 _) (fun _=>rfl) (fun _ j o d hj hl=>by
       have a0:=(v8.1 hj).1;simp[a0] at hl) (pf.start ops)
     ·cases h
end
section
variable [Low] {P:Program} {w w':World} {g g':G} {base:Nat} {σ:St} {a:Act}
theorem Ns{o:Out}{σ:St}{J:Nat->St->R}{key:Option Dom}{out:Nat × b8}:∀ {O:List Nat},Bd O o σ J=some (key,some out)->∃j∈O,o.code=j+2/\∃M,J j σ=some (M,some out)
 | [],h=>by simp[Bd] at h
 | [j],h=>by obtain⟨h1,y⟩:=eM (show iE (o.code==j+2) (J j σ)=_ from h);exact⟨j,by simp,by simpa using h1,_,y⟩
 | j::k::r,h=>by
  obtain⟨h1,y⟩:=od (show sv (o.code==j+2) (J j σ) (Bd (k::r) o σ J)=_ from h);by_cases hc:o.code=j+2
  ·obtain⟨M,h1⟩:=h1 (by simpa using hc);exact⟨j,by simp,hc,M,h1⟩
  ·obtain⟨M,y⟩:=y (by simpa using hc);obtain⟨i,U,W,V⟩:=Ns y;exact⟨i,by simp at U ⊢;exact .inr U,W,V⟩
theorem vN{d:Dom}{code:Nat}{key:Option Dom}{out:Nat × b8}(h:ms d code σ=some (key,some out)):(restrictD d σ).dom=d/\σ.r = []/\out=(code,(restrictD d σ).flat):=by
 unfold ms at h;cases hc:((restrictD d σ).dom==d&&σ.r.isEmpty) with
 | false=>rw[hc] at h;cases h
 | true =>rw[hc] at h;simp only[g6,b7,j8] at h;simp only[a9,u7] at hc;exact⟨hc.1,by simpa using hc.2,h.2.symm⟩
theorem mN{x:Option b8}{key:Option Dom}{out:Nat × b8}(h:dP x=some (key,some out)):∃p,x=some p/\out=(1,p):=by
 unfold dP at h
 split at h
 ·rename_i p;simp only[b7,j8] at h;exact⟨p,rfl,h.2.symm⟩
 ·cases h
theorem Zo{r:R}{x:Nat × b8}(h:zV r=some x):∃key,r=some (key,some x):=by
 unfold zV at h
 split at h
 ·rename_i k o;subst h;exact⟨k,rfl⟩
 ·cases h
theorem NK{V:Bool}{M:List Nat}{code:Nat}{pay:b8}{J:St}{U:St->R}{O:Nat->St->R}{Y:Option b8->R}{key:Option Dom}{out:Nat × b8}
  (h:Dr V M (some (code,pay)) J U O Y=some (key,some out)) :
  (code=0/\∃k,U J=some (k,some out))\/(code=1/\∃k,Y (some pay)=some (k,some out))\/∃j,code=j+2/\∃k,O j J=some (k,some out):=by
 have W:∀ {x:R} {k:Option Dom},sv (Out.code (some (code,pay))==0) (U J) x=some (k,some out)->(code=0/\∃k,U J=some (k,some out))\/∃k,x=some (k,some out):=by
  intro x k h;obtain⟨h1,y⟩:=od h;by_cases hc:code=0
  ·exact .inl ⟨hc,h1 (by simpa [Out.code] using hc)⟩
  ·exact .inr (y (by simpa [Out.code] using hc))
 have lv:∀ {M:List Nat} {k:Option Dom},Bd M (some (code,pay)) J O=some (k,some out)->∃j,code=j+2/\∃k,O j J=some (k,some out):=by intro M k h;obtain⟨j,_,h1,Z,y⟩:=Ns h;exact⟨j,h1,Z,y⟩
 unfold Dr at h
 split at h
 ·obtain⟨h1,y⟩:=eM h;exact .inl ⟨by simpa [Out.code] using h1,_,y⟩
 ·rcases W h with h | ⟨k,h⟩
  ·exact .inl h
  ·obtain⟨h1,y⟩:=eM h;exact .inr (.inl ⟨by simpa [Out.code] using h1,_,y⟩)
 ·rcases W h with h | ⟨k,h⟩
  ·exact .inl h
  ·exact .inr (.inr (lv h))
 ·rcases W h with h | ⟨k,h⟩
  ·exact .inl h
  ·obtain⟨h1,y⟩:=od h;by_cases hc:code=1
   ·exact .inr (.inl ⟨hc,h1 (by simpa [Out.code] using hc)⟩)
   ·obtain⟨k',y⟩:=y (by simpa [Out.code] using hc);exact .inr (.inr (lv y))
theorem Sm:∀(cs:List Ce) (ds:b8) (i j:Nat) c,cs[j]?=some c->gd (jW cs ds i) j=acb c (gd ds (i+j))
 | [],_,_,_,_,h=>by simp at h
 | c::cs,ds,i,0,c',h=>by simp at h;subst h;rfl
 | c::cs,ds,i,j+1,c',h=>by have:=Sm cs ds (i+1) j c' (by simpa using h);show gd (jW cs ds (i+1)) j=_;rw[this,show i+1+j=i+(j+1) from by omega]
theorem abD{c:Ce}{x:D}{v:Value}(h:VC P w g base c x v):VC P w g base (sf c) (acb c x) v:=by
 cases c with
 | kb b =>have h:v=.bool b:=h;subst h;exact VD.bool (.b b)
 | _=>exact h
theorem Oj{cs:List Ce}{ds:b8}{y:Array Value}(h:VCs P w g base cs ds y):VCs P w g base (cs.map sf) (jW cs ds 0) y:=by refine⟨by rw[h.1,r9],fun j c hc=>?_⟩;rw[w9] at hc;obtain⟨J,M,rfl⟩:=Option.map_eq_some_iff.1 hc;obtain⟨u,O,hv⟩:=h.2 j J M;exact⟨u,O,by rw[Sm cs ds 0 j J M,m0];exact abD hv⟩
theorem ajj{t:T}{v:Value}(h:VT P w g base t v):VT P w g base t.wide v:=by
 obtain⟨sh,p⟩:=t
 match sh,h with
 | .one (.c c),h=>exact abD h
 | .one (.agg cs),⟨arr,h1,h2⟩=>exact⟨arr,h1,Oj h2⟩
 | .tup xs,h=>exact h
theorem aeT(e:Env)(j:Nat):dL j (e.map fun p=>(p.1,p.2.wide))=(dL j e).wide:=by
 induction e with
 | nil=>rfl
 | cons p e y =>
  obtain⟨i,v⟩:=p;simp only[w8,dL];cases (j==i) with
  | true=>rfl
  | false=>exact y
theorem aax(h:ul)(j:Nat):bS j (h.map fun p=>(p.1,p.2.1.map sf,jW p.2.1 p.2.2 0))=(bS j h).map fun p=>(p.1.map sf,jW p.1 p.2 0):=by
 induction h with
 | nil=>rfl
 | cons p h y =>
  obtain⟨i,v⟩:=p;simp only[w8,bS];cases (j==i) with
  | true=>rfl
  | false=>exact y
theorem Dc:∀(cs:List Ce) (ds:b8) (i:Nat),(jW cs ds i).length=cs.length
 | [],_,_=>rfl
 | c::cs,ds,i=>congrArg (· + 1) (Dc cs ds (i+1))
theorem Rel.wide(y:Rel P w g base σ a)(J:σ.r = []):Rel P w g base σ.wide a:=by
 refine⟨fun i=>?_,fun id cs ds h=>?_,y.fresh,y.base_le,y.defers,y.low,y.mine⟩
 ·have:=y.env i;rw[J] at this;show VT P w g base (cz i (σ.e.map fun p=>(p.1,p.2.wide)) σ.r) _;rw[J];show VT P w g base (dL i (σ.e.map fun p=>(p.1,p.2.wide))) _;rw[aeT];exact ajj this
 ·have h:bS id (σ.h.map fun p=>(p.1,p.2.1.map sf,jW p.2.1 p.2.2 0))=some (cs,ds):=h;rw[aax] at h;obtain⟨⟨M,O⟩,V,h1⟩:=Option.map_eq_some_iff.1 h;injection h1 with h1 h2
  subst h1;subst h2;obtain⟨Y,q2,Z,q4,U,E,q5,W⟩:=y.box id M O V;exact⟨Y,q2,Z,by rw[Dc,r9],U,E,q5,Oj W⟩
theorem Rel.cut(y:Rel P w g base σ a)(id:Nat)(ks:List Nat):Rel P w g base (σ.cut id ks) a:=by
 refine⟨fun i=>?_,y.box,y.fresh,y.base_le,y.defers,y.low,y.mine⟩;show VT P w g base (cz i (jw (Gl id ks) (jw (pI ks) σ.e)) σ.r) _;rcases nC i (Gl id ks) (jw (pI ks) σ.e) σ.r with h | h
 ·rcases nC i (pI ks) σ.e σ.r with h' | h'
  ·rw[h,h'];exact y.env i
  ·rw[h,h'];trivial
 ·rw[h];trivial
def amU(P:Program)(base n:Nat)(w0:World)(fin:St->Option b8)(out:Nat × b8)(U:St->R)(O:Nat->St->R)(V:Option b8->R)(Q:Exit->Act->World->Prop):Prop:=
 (∀y w' g' M J,U y=some (J,some out)->Rel P w' g' base y M->M.tmps.size=n->Below base w0 w'->Q .normal M w') /\
 (∀j y w' g' M J,O j y=some (J,some out)->Rel P w' g' base y M->M.tmps.size=n->Below base w0 w'->Q (.exit j) M w') /\
 (∀y w' g' M J,V (fin y)=some (J,some out)->Rel P w' g' base y M->M.tmps.size=n->Below base w0 w'->Q .ret M w')
theorem Hu{call:FuncId->List T->Option (T × Bool)}(a8:av P call){N:Nat}{ks:List Nat}{fin:St->Option b8}{n:Nat}{w0:World} :
  ∀(c:Code) (σ:St) (kn:St->R) (kx:Nat->St->R) (kr:Option b8->R) (key:Option Dom) (out:Nat × b8) (w:World) (g:G) (a:Act) (Q:Exit->Act->World->Prop),
   jk n c=true->dt P call N ks fin c σ kn kx kr=some (key,some out)->Rel P w g base σ a->a.tmps.size=n->Below base w0 w->amU P base n w0 fin out kn kx kr Q->c.wp P Q a w:=by
 intro c
 induction c with
 | skip =>intro σ kn kx kr key out w g a Q hd h hr hn hb Z;exact wp_skip (Z.1 σ w g a key h hr hn hb)
 | region id ops c2 =>
  intro σ kn kx kr key out w g a Q hd h hr hn hb Z;have a5:∀o∈ops.toList,∀d,o.dst=some d->d<n:=fun o ho d d1=>by have:=i9.1 hd o ho;rw[d1] at this;exact y9 this
  simp only[dt] at h;have hr:=hr.cut id ks;generalize σ.cut id ks=σ at *;cases hj:(jF ks).contains (1000000+id) with
  | true =>
   rw[hj,g6] at h
   split at h
   ·rename_i d _ _
    split at h
    ·rename_i kk oo a6;obtain⟨a0,h⟩:=eM h;obtain⟨⟨code,pay⟩,rfl⟩:=C8.1 a0;have a7:∀J w' g' M O,ms d 0 (J.settle ks).wide=some (O,some (code,pay))->Rel P w' g' base J M->M.tmps.size=n->Below base w0 w'->Q .normal M w':=by
      intro J w' g' M O h1 U W V;obtain⟨q1,q2,Y⟩:=vN h1;injection Y with Y q4
      subst Y;subst q4;obtain⟨g2,a3⟩:=U.settle ks;have:=((a3.wide (Ol _ _)).restrictD q2 d).mkSt rfl;rw[q1] at this;exact Z.1 _ w' g2 M key h this W V
     cases c2 with
     | true=>exact SJ a8 a5 a7 a6 hr hn hb
     | false =>exact wp_region_list (PA a8 a7 ops.toList σ w g a kk a5 a5 a6 hr hn hb)
    ·cases h
   ·cases h
  | false =>
  rw[hj,f9] at h;cases c2 with
  | true=>exact SJ a8 a5 (fun J w' g' M O h1 U W V=>(U.settle ks).elim fun g2 a3=>Z.1 _ w' g2 M O h1 a3 W V) h hr hn hb
  | false =>exact wp_region_list (PA a8 (fun J w' g' M O h1 U W V=>(U.settle ks).elim fun g2 a3=>Z.1 _ w' g2 M O h1 a3 W V) ops.toList σ w g a key a5 a5 h hr hn hb)
 | seq x y b1 b2 =>intro σ kn kx kr key out w g a Q hd h hr hn hb Z;simp only[jk,a9] at hd;refine wp_seq (b1 σ _ kx kr key out w g a _ hd.1 h hr hn hb ⟨fun J w' g' M O h1 U W V=>?_,fun j J w' g' M O h1 U W V=>Z.2.1 j J w' g' M O h1 U W V,fun J w' g' M O h1 U W V=>Z.2.2 J w' g' M O h1 U W V⟩);exact b2 J kn kx kr O out w' g' M Q hd.2 h1 U W V Z
 | cond c x y b1 b2 =>
  intro σ kn kx kr key out w g a Q hd h hr hn hb Z;simp only[jk,a9] at hd;simp only[dt] at h;have hc:=dO hr c
  split at h
  ·rename_i t hsh;have a4:a.eval c=.bool t:=by generalize opd σ c=q at *;obtain⟨sh,p⟩:=q;simp only at hsh;subst hsh;exact hc
   cases t with
   | true=>exact wp_cond_true a4 (b1 σ kn kx kr key out w g a Q hd.1 h hr hn hb Z)
   | false=>exact wp_cond_false a4 (b2 σ kn kx kr key out w g a Q hd.2 h hr hn hb Z)
  ·rename_i hsh;have a4:a.eval c=.bool (gd (opd σ c).p 0).bool:=by generalize opd σ c=q at *;obtain⟨sh,p⟩:=q;simp only at hsh;subst hsh;exact abU hc
   cases hj:Yg ks c with
   | true =>
    rw[hj,g6] at h
    split at h
    ·rename_i d _ _
     split at h
     ·rename_i kk oo a6;obtain⟨a0,h⟩:=eM h;obtain⟨⟨code,pay⟩,rfl⟩:=C8.1 a0;have b0:=NK h;have a7:∀J w' g' M O,ms d 0 (J.settle ks).wide=some (O,some (code,pay))->Rel P w' g' base J M->M.tmps.size=n->Below base w0 w'->Q .normal M w':=by
       intro J w' g' M O h1 U W V;obtain⟨q1,q2,Y⟩:=vN h1;injection Y with Y q4
       subst Y;subst q4;obtain⟨g2,a3⟩:=U.settle ks;have:=((a3.wide (Ol _ _)).restrictD q2 d).mkSt rfl;rw[q1] at this;rcases b0 with⟨_,k,hk⟩ | ⟨hc,_⟩ | ⟨j,hc,_⟩
       ·exact Z.1 _ w' g2 M k hk this W V
       ·omega
       ·omega
      have c6:∀j J w' g' M O,ms d (j+2) (J.settle ks).wide=some (O,some (code,pay))->Rel P w' g' base J M->M.tmps.size=n->Below base w0 w'->Q (.exit j) M w':=by
       intro j J w' g' M O h1 U W V;obtain⟨q1,q2,Y⟩:=vN h1;injection Y with Y q4
       subst Y;subst q4;obtain⟨g2,a3⟩:=U.settle ks;have:=((a3.wide (Ol _ _)).restrictD q2 d).mkSt rfl;rw[q1] at this;rcases b0 with⟨hc,_⟩ | ⟨hc,_⟩ | ⟨j',hc,k,hk⟩
       ·omega
       ·omega
       ·obtain rfl:j'=j:=by omega
        exact Z.2.1 j' _ w' g2 M k hk this W V
      have c9:∀J w' g' M O,dP (fin J)=some (O,some (code,pay))->Rel P w' g' base J M->M.tmps.size=n->Below base w0 w'->Q .ret M w':=by
       intro J w' g' M O h1 U W V;obtain⟨pp,q1,q2⟩:=mN h1;injection q2 with q2 Y
       subst q2;subst Y;rcases b0 with⟨hc,_⟩ | ⟨_,k,hk⟩ | ⟨j',hc,_⟩
       ·omega
       ·exact Z.2.2 J w' g' M k (by rw[q1];exact hk) U W V
       ·omega
      obtain⟨h1,U⟩:=od a6;refine wp_cond_split a4 (fun ht=>?_) (fun hf=>?_)
      ·obtain⟨k',h1⟩:=h1 ht;exact b1 (σ.learn ks c true) _ _ _ k' (code,pay) w g a Q hd.1 h1 (hr.learn (by rw[a4,ht])) hn hb ⟨a7,c6,c9⟩
      ·obtain⟨k',U⟩:=U hf;exact b2 (σ.learn ks c false) _ _ _ k' (code,pay) w g a Q hd.2 U (hr.learn (by rw[a4,hf])) hn hb ⟨a7,c6,c9⟩
     ·cases h
    ·cases h
   | false =>
   rw[hj,f9] at h;obtain⟨h1,U⟩:=od h;refine wp_cond_split a4 (fun ht=>?_) (fun hf=>?_)
   ·obtain⟨k',h1⟩:=h1 ht;exact b1 (σ.learn ks c true) kn kx kr k' out w g a Q hd.1 h1 (hr.learn (by rw[a4,ht])) hn hb Z
   ·obtain⟨k',U⟩:=U hf;exact b2 (σ.learn ks c false) kn kx kr k' out w g a Q hd.2 U (hr.learn (by rw[a4,hf])) hn hb Z
  ·cases h
 | block id x ih =>
  intro σ kn kx kr key out w g a Q hd h hr hn hb Z;simp only[dt] at h;cases hj:(jF ks).contains id with
  | true =>
   rw[hj,g6] at h
   split at h
   ·rename_i d _ _
    split at h
    ·rename_i kk oo a6;obtain⟨a0,h⟩:=eM h;obtain⟨⟨code,pay⟩,rfl⟩:=C8.1 a0;have b0:=NK h;have a7:∀J w' g' M O,ms d 0 J=some (O,some (code,pay))->Rel P w' g' base J M->M.tmps.size=n->Below base w0 w'->Q .normal M w':=by
      intro J w' g' M O h1 U W V;obtain⟨q1,q2,Y⟩:=vN h1;injection Y with Y q4
      subst Y;subst q4;have:=(U.restrictD q2 d).mkSt rfl;rw[q1] at this;rcases b0 with⟨_,k,hk⟩ | ⟨hc,_⟩ | ⟨j,hc,_⟩
      ·exact Z.1 _ w' g' M k hk this W V
      ·omega
      ·omega
     refine wp_block (ih σ _ _ _ kk (code,pay) w g a _ hd a6 hr hn hb ⟨a7,fun j J w' g' M O h1 U W V=>?_,fun J w' g' M O h1 U W V=>?_⟩)
     ·have h1:(bif j==id then ms d 0 else ms d (j+2)) J=some (O,some (code,pay)):=h1;simp only[Exit.inBlock];by_cases e:j=id
      ·rw[m6 e];rw[show (j==id)=true from by simpa using e,g6] at h1;exact a7 J w' g' M O h1 U W V
      ·rw[j7 e];rw[show (j==id)=false from by simpa using e,f9] at h1;obtain⟨q1,q2,Y⟩:=vN h1;injection Y with Y q4
       subst Y;subst q4;have:=(U.restrictD q2 d).mkSt rfl;rw[q1] at this;rcases b0 with⟨hc,_⟩ | ⟨hc,_⟩ | ⟨j',hc,k,hk⟩
       ·omega
       ·omega
       ·obtain rfl:j'=j:=by omega
        exact Z.2.1 j' _ w' g' M k hk this W V
     ·obtain⟨pp,q1,q2⟩:=mN h1;injection q2 with q2 Y;subst q2;subst Y;rcases b0 with⟨hc,_⟩ | ⟨_,k,hk⟩ | ⟨j',hc,_⟩
      ·omega
      ·exact Z.2.2 J w' g' M k (by rw[q1];exact hk) U W V
      ·omega
    ·cases h
   ·cases h
  | false =>
  rw[hj,f9] at h;have hr:=hr.shed ks x;generalize σ.shed ks x=σ at *;refine wp_block (ih σ _ _ kr key out w g a _ hd h hr hn hb ⟨fun J w' g' M O h1 U W V=>Z.1 _ w' g' M O h1 (U.restrict σ) W V,fun j J w' g' M O h1 U W V=>?_,fun J w' g' M O h1 U W V=>Z.2.2 J w' g' M O h1 U W V⟩);have h1:(bif j==id then kn (σ.restrict J) else kx j J)=some (O,some out):=h1;simp only[Exit.inBlock];by_cases e:j=id
  ·rw[m6 e];rw[show (j==id)=true from by simpa using e,g6] at h1;exact Z.1 _ w' g' M O h1 (U.restrict σ) W V
  ·rw[j7 e];rw[show (j==id)=false from by simpa using e,f9] at h1;exact Z.2.1 j J w' g' M O h1 U W V
 | loop x ih =>
  intro σ kn kx kr key out w g a Q hd h hr hn hb Z;simp only[dt] at h;cases b3:σ.r.isEmpty with
  | false=>rw[b3] at h;cases h
  | true =>
   rw[b3] at h;have b3:σ.r = []:=by simpa using b3
   simp only[n4,f9] at h;obtain⟨a0,h⟩:=eM h;generalize c5:(fun p=>zV (dt P call N ks fin x (mkSt σ.dom p) (ms σ.dom 0) (fun j=>ms σ.dom (j+2)) dP))=step at *;obtain⟨oo,c8⟩:=C8.1 a0;rw[c8] at h;obtain⟨code,pay⟩:=oo
   -- where it ends
   have b5:(∀j w' g' M,code=j+2->Rel P w' g' base (mkSt σ.dom pay) M->M.tmps.size=n->Below base w0 w'->Q (.exit j) M w') /\
     (∀J w' g' M,code=1->fin J=some pay->Rel P w' g' base J M->M.tmps.size=n->Below base w0 w'->Q .ret M w'):=by
    have c4:∀ {k':Option Dom},Bd (eB x).eraseDups (some (code,pay)) (mkSt σ.dom (Out.pay (some (code,pay)))) kx=some (k',some out)->code≠1/\∀j w' g' M,code=j+2->Rel P w' g' base (mkSt σ.dom pay) M->M.tmps.size=n->Below base w0 w'->Q (.exit j) M w':=by
     intro k' hl;obtain⟨j,_,h1,k2,U⟩:=Ns hl;have h1:code=j+2:=h1;refine⟨by omega,fun j' w' g' M d6 b6 c1 c3=>?_⟩;obtain rfl:j'=j:=by omega
     exact Z.2.1 j' _ w' g' M k2 U b6 c1 c3
    have c7:∀ {k':Option Dom},kr (some pay)=some (k',some out)->∀J w' g' M,code=1->fin J=some pay->Rel P w' g' base J M->M.tmps.size=n->Below base w0 w'->Q .ret M w':=by intro k' hk J w' g' M _ hf b6 c1 c3;exact Z.2.2 J w' g' M k' (by rw[hf];exact hk) b6 c1 c3
    cases hh:hU x with
    | true =>
     rw[hh,g6] at h
     split at h
     ·obtain⟨h1,U⟩:=eM h;have h1:code=1:=by simpa [Out.code] using h1
      exact⟨fun j w' g' M hj=>by omega,c7 U⟩
     ·obtain⟨h1,U⟩:=od h;by_cases hc:code=1
      ·obtain⟨k',h1⟩:=h1 (by simpa [Out.code] using hc);exact⟨fun j w' g' M hj=>by omega,c7 h1⟩
      ·obtain⟨k',U⟩:=U (by simpa [Out.code] using hc);exact⟨(c4 U).2,fun J w' g' M h=>absurd h hc⟩
    | false =>rw[hh,f9] at h;exact⟨(c4 h).2,fun J w' g' M h1=>absurd h1 (c4 h).1⟩
   -- the rounds
   refine wp_loop_ghost (fun m a w=>∃p g,aX step m p=some (code,pay)/\Rel P w g base (mkSt σ.dom p) a/\a.tmps.size=n/\Below base w0 w) N ⟨σ.flat,g,c8,hr.mkSt b3,hn,hb⟩ ?_;rintro m a1 w1 ⟨p,g1,a2,d4,d3,d5⟩;cases m with
   | zero=>cases a2
   | succ m =>
    unfold aX at a2;cases hs:step p with
    | none=>rw[hs] at a2;cases a2
    | some cp =>
     obtain⟨b4,c0⟩:=cp;rw[hs] at a2;have d2:zV (dt P call N ks fin x (mkSt σ.dom p) (ms σ.dom 0) (fun j=>ms σ.dom (j+2)) dP)=some (b4,c0):=by rw[<- hs,<- c5]
     obtain⟨k',a6⟩:=Zo d2;refine ih (mkSt σ.dom p) _ _ _ k' (b4,c0) w1 g1 a1 _ hd a6 d4 d3 d5 ⟨fun J w' g' M O h1 U W V=>?_,fun j J w' g' M O h1 U W V=>?_,fun J w' g' M O h1 U W V=>?_⟩
     ·obtain⟨q1,q2,Y⟩:=vN h1;injection Y with Y q4;subst Y;subst q4;have:=(U.restrictD q2 σ.dom).mkSt rfl;rw[q1] at this;exact⟨m,K5 m,_,g',a2,this,W,V⟩
     ·obtain⟨q1,q2,Y⟩:=vN h1;injection Y with Y q4;subst Y;subst q4;have:=(U.restrictD q2 σ.dom).mkSt rfl;rw[q1] at this;simp only[b7,j8] at a2;obtain⟨rfl,rfl⟩:=a2;exact b5.1 j w' g' M rfl this W V
     ·obtain⟨pp,q1,q2⟩:=mN h1;injection q2 with q2 Y;subst q2;subst Y;simp only[b7,j8] at a2;obtain⟨rfl,rfl⟩:=a2;exact b5.2 J w' g' M rfl q1 U W V
 | exit id =>intro σ kn kx kr key out w g a Q hd h hr hn hb Z;exact wp_exit (Z.2.1 id σ w g a key h hr hn hb)
 | ret =>intro σ kn kx kr key out w g a Q hd h hr hn hb Z;exact wp_ret (Z.2.2 σ w g a key h hr hn hb)
 | _ =>intro σ kn kx kr key out w g a Q hd h hr hn hb Z;simp only[dt] at h;cases h
end
section
variable [Low] {P:Program} {w w':World} {g g':G} {base:Nat} {σ:St} {a:Act}
def VL(P:Program)(w:World)(g:G)(base:Nat):List Sh1->b8->List Value->Prop
 | [],_,[]=>True
 | x::xs,p,v::vs=>V1 P w g base x p v/\VL P w g base xs (p.drop x.size) vs
 | _,_,_=>False
theorem yK{p q:b8}{i:Nat}(h:i<p.length):gd (p++q) i=gd p i:=by simp[gd,List.getD,z9 h]
theorem ZM:∀ {xs:List Sh1} {p:b8} {J:List Value},VL P w g base xs p J->J.length=xs.length/\∀(j:Nat) x,xs[j]?=some x->∃u,J[j]?=some u/\V1 P w g base x (sub p (tg xs j) x.size) u
 | [],p,[],h=>⟨rfl,fun j x h=>by simp at h⟩
 | [],p,v::J,h=>h.elim
 | x::xs,p,[],h=>h.elim
 | x::xs,p,v::J,h=>by
  obtain⟨h1,V⟩:=h;obtain⟨O,U⟩:=ZM V;refine⟨by simp[O],fun j y M=>?_⟩;cases j with
  | zero =>simp only[p9,b7] at M;subst M;exact⟨v,rfl,oH (fun j M=>by rw[fY _ _ _ _ M];simp[tg]) h1⟩
  | succ j =>
   obtain⟨u,W,Y⟩:=U j y (by simpa using M);refine⟨u,by simpa using W,oH (fun i hi=>?_) Y⟩;rw[fY _ _ _ _ hi,fY _ _ _ _ hi,Lu]
   congr 1
   simp only[tg,F5,O1];omega
theorem agu{t:TypeId}{x r:T}{u:Value}(h:Cv P t σ x=some r)(y:VT P w g base x u):∃A,u=.pointer (some A):=by
 unfold Cv at h
 split at h
 ·obtain⟨sh,p⟩:=x;cases sh with
  | tup xs=>cases h
  | one x=>cases x with
   | agg xs=>cases h
   | c x=>cases x with
    | ptr id off=>exact⟨_,y⟩
    | eptr J e off=>cases J with
     | none=>obtain⟨_,_,_,_,h,_⟩:=y;exact⟨_,h⟩
     | some t=>obtain⟨_,_,h,_⟩:=y;exact⟨_,h⟩
    | cptr cells off=>obtain⟨_,_,h,_⟩:=y;exact⟨_,h⟩
    | _=>cases h
 ·cases h
def CY(tmps:Array Value):ResultVar->Sem Value
 | .tmp t=>pure (tmps.getD t undef)
 | .cell a t=>do loadVar t (<- asAddr (tmps.getD a undef))
theorem zo(U:Rel P w g base σ a):∀ {rs:List ResultVar} {y:List Sh1} {p:b8},tN P σ rs=some (y,p)->∃W:List Value,(rs.mapM (CY a.tmps)).run P w=.ok W w/\VL P w g base y p W
 | [],y,p,h=>by simp only[tN,b7,j8] at h;obtain⟨rfl,rfl⟩:=h;exact⟨[],by simp,trivial⟩
 | r::rs,y,p,h=>by
  unfold tN at h;simp only at h
  split at h
  ·rename_i v a0 p0 hv Z;obtain⟨W,k1,Y⟩:=zo U Z;have h1:∃u,(CY a.tmps r).run P w=.ok u w/\VT P w g base v u:=by
    cases r with
    | tmp t =>simp only[b7] at hv;subst hv;exact⟨_,by simp[CY],U.env t⟩
    | cell x t =>simp only at hv;obtain⟨A,hA⟩:=agu hv (U.env x);obtain⟨z,J,M⟩:=SZ U hv (U.env x);have J:=J w (Below.refl _ _);refine⟨z,?_,M⟩;rw[hA] at J;simp only[CY,hA,asAddr,l8,m9,i5];simpa only[Instr.loadAt,Instr.sureAddr,l8,m9,i5] using J
   obtain⟨u,J,M⟩:=h1;have O:(List.mapM (CY a.tmps) (r::rs)).run P w=.ok (u::W) w:=by rw[List.mapM_cons];simp only[l8,J,i5,k1,m9]
   obtain⟨a1,vp⟩:=v
   split at h
   ·rename_i b V;simp only at V;subst V;simp only[b7,j8] at h;obtain⟨rfl,rfl⟩:=h;refine⟨_,O,?_,Y⟩;have M:u=.bool b:=M;subst M;exact VD.bool (.b b)
   ·rename_i x _ V;simp only at V;subst V;simp only[b7,j8] at h;obtain⟨rfl,rfl⟩:=h;refine⟨_,O,oH (fun j hj=>?_) M,?_⟩
    ·rw[yK (by rw[fB];exact hj),fY _ _ _ _ hj,m0]
    ·rw[J5 (by rw[fB];exact i8 _)];simpa [List.drop_eq_nil_of_le (D5 (fB vp x.size 0))] using Y
   ·cases h
  ·cases h
theorem abI{pairs:List (Tok × Tok)}(h1:cM (pairs.map (·.1))=true)(h2:cM (pairs.map (·.2))=true){c r:Ce}(y:Mr c r=true)(Z:∀t x e M U O,c=.own t x e->r=.own M U O->(t,M)∈pairs)
  {x:D} {v:Value} (hv:VC P w g base c x v):VC P w (Je g pairs) base r x v:=by
 cases c with
 | d s=>cases r with
  | d s' =>
   have:s=s':=by simpa [Mr] using y
   subst this;exact hv
  | _=>simp[Mr] at y
 | own t J e=>cases r with
  | own M U O =>
   have hm:=Z t J e M U O rfl rfl;have hx:J=U/\e=O/\(bq M&&J)=(bq t&&J):=by
    have y:(J==U&&e==O&&M.1==0&&(!J||bq t==bq M))=true:=by cases J <;> exact y
    simp only[a9,u7,B6,o8] at y;refine⟨y.1.1.1,y.1.1.2,?_⟩;rcases y.2 with h | h
    ·rw[h,E4,E4]
    ·rw[h]
   obtain⟨rfl,rfl,Y⟩:=hx;exact aiA h1 h2 (i8 _) hm Y hv
  | d s =>
   cases J with
   | true=>cases s <;> simp[Mr] at y
   | false =>
    cases s with
    | sl O =>
     have:e=O:=by simpa [Mr] using y
     subst this;obtain⟨row,W,V⟩:=hv;have:VD P w g.prot (.sl e) x v:=py W V;exact this
    | _=>simp[Mr] at y
  | _=>cases J <;> simp[Mr] at y
 | _=>cases r <;> simp[Mr] at y
theorem GT:∀ {cs rs:List Ce},Jl cs rs=true->cs.length=rs.length/\∀(j:Nat) r,rs[j]?=some r->∃c,cs[j]?=some c/\Mr c r=true
 | [],[],_=>⟨rfl,fun j r h=>by simp at h⟩
 | [],r::rs,h=>by simp[Jl] at h
 | c::cs,[],h=>by simp[Jl] at h
 | c::cs,r::rs,h=>by
  simp only[Jl,a9] at h;obtain⟨J,M⟩:=GT h.2;refine⟨by simp[J],fun j x y=>?_⟩;cases j with
  | zero =>simp only[p9,b7] at y;subst y;exact⟨c,rfl,h.1⟩
  | succ j =>obtain⟨U,O,V⟩:=M j x (by simpa using y);exact⟨U,by simpa using O,V⟩
theorem SW{ts:List Tok}{c:Ce}{t:Tok}{x:Bool}{e:TypeId}(h:fG ts c=.own t x e):∃y,c=.own t y e:=by
 cases c with
 | own V y M=>simp only[fG,Ce.own.injEq] at h;obtain⟨rfl,_,rfl⟩:=h;exact⟨y,rfl⟩
 | eptr t e off=>cases t <;> cases h
 | inn J U off O=>simp only[fG] at h;cases hc:ts.contains J <;> rw[hc] at h <;> cases h
 | _=>cases h
theorem ajI{pairs:List (Tok × Tok)}(h1:cM (pairs.map (·.1))=true)(U:cM (pairs.map (·.2))=true){ts:List Tok}{x y:Sh1}(J:amq (x.map (fG ts)) y=true)(V:∀q∈eg x.ces y.ces,q∈pairs)
  {p:b8} {v:Value} (hv:V1 P w g base (x.map (fG ts)) p v):x.size=y.size/\V1 P w (Je g pairs) base y p v:=by
 cases x with
 | c c=>cases y with
  | c r =>refine⟨rfl,abI h1 U J (fun t x e t' x' e' e1 e2=>?_) hv⟩;obtain⟨x0,rfl⟩:=SW e1;subst e2;exact V _ (by simp[Sh1.ces,eg])
  | agg ys=>cases J
 | agg xs=>cases y with
  | c r=>cases J
  | agg ys =>
   obtain⟨M,k2⟩:=GT (show Jl (xs.map (fG ts)) ys=true from J);rw[r9] at M;obtain⟨Z,rfl,q1,q2⟩:=hv;refine⟨M,Z,rfl,by rw[q1,r9,M],fun j r hj=>?_⟩;obtain⟨c,hc,W⟩:=k2 j r hj;obtain⟨u,hu,Y⟩:=q2 j c hc;refine⟨u,hu,abI h1 U W (fun t x e t' x' e' e1 e2=>?_) Y⟩;rw[w9] at hc;cases O:xs[j]? with
   | none=>rw[O] at hc;cases hc
   | some c0 =>
    rw[O] at hc;injection hc with hc
    rw[e1] at hc;obtain⟨x0,rfl⟩:=SW hc;subst e2;exact V _ (zM O hj)
theorem OT(x:Sh1):x.ces.length=x.size:=by cases x <;> rfl
theorem aaP{pairs:List (Tok × Tok)}(h1:cM (pairs.map (·.1))=true)(U:cM (pairs.map (·.2))=true){ts:List Tok}:∀ {xs ys:List Sh1},fit (xs.map (Sh1.map (fG ts))) ys=true->(∀q∈eg (eS xs) (eS ys),q∈pairs) ->
  ∀ {p:b8} {J:List Value},VL P w g base (xs.map (Sh1.map (fG ts))) p J->VL P w (Je g pairs) base ys p J
 | [],[],_,_,p,J,h=>by cases J <;> exact h
 | [],y::ys,h,_,_,_,_=>by simp[fit] at h
 | x::xs,[],h,_,_,_,_=>by simp[fit] at h
 | x::xs,y::ys,h,hp,p,[],hv=>hv.elim
 | x::xs,y::ys,h,hp,p,v::J,hv=>by
  simp only[w8,fit,a9] at h;obtain⟨V,W⟩:=hv;have M:x.size=y.size:=by
   cases x with
   | c c=>cases y with
    | c r=>rfl
    | agg ys=>cases h.1
   | agg xs=>cases y with
    | c r=>cases h.1
    | agg ys =>
     have:=(GT (show Jl (xs.map (fG ts)) ys=true from h.1)).1
     rwa [r9] at this
  have e:eg (eS (x::xs)) (eS (y::ys))=eg x.ces y.ces++eg (eS xs) (eS ys):=by simp only[eS,G5];exact EX (by rw[OT,OT,M])
  rw[e] at hp;refine⟨(ajI h1 U h.1 (fun q O=>hp q (n3.2 (.inl O))) V).2,?_⟩;have:=aaP h1 U h.2 (fun q O=>hp q (n3.2 (.inr O))) W
  rwa [Sh1.size_map,M] at this
theorem TW{f:Ce->Ce}(hk:jr P base g g' w w' f):∀ {xs:List Sh1} {p:b8} {y:List Value},VL P w g base xs p y->VL P w' g' base (xs.map (Sh1.map f)) p y
 | [],p,y,h=>by cases y <;> exact h
 | x::xs,p,[],h=>h.elim
 | x::xs,p,v::y,h=>⟨hk.v1 h.1,by rw[Sh1.size_map];exact TW hk h.2⟩
theorem aeo(hr:Rel P w g base σ a){fn:Func}{rs:Sh}{p:b8}(h:GQ P fn rs σ=some p) :
  ∃v g',(results fn a.tmps).run P w=.ok v w/\VT P w g' base ⟨rs,p⟩ v/\(∀b,Low.old b->g'.prot b=Low.low b)/\(∀b,w.heap.size<=b->g'.prot b=0/\g'.owner b=none):=by
 unfold GQ at h
 split at h
 ·rename_i J p0 W;generalize a2:aaT (eS J) (eS rs.list)=ts at h;generalize a1:eg (eS J) (eS rs.list)=pairs at h;cases hc:(fit (J.map (Sh1.map (fG ts))) rs.list&&cM (pairs.map (·.1))&&cM (pairs.map (·.2))&&rs.tupOk) with
  | false=>rw[hc] at h;cases h
  | true =>
   rw[hc,g6] at h;injection h with h
   subst h;simp only[a9] at hc;obtain⟨⟨⟨c1,c2⟩,c3⟩,c4⟩:=hc;obtain⟨y,k1,k2⟩:=zo hr W;have k3:=aaP c2 c3 c1 (fun q hq=>by rw[<- a1];exact hq) (TW (zS g ts w) k2);obtain⟨U,q2⟩:=ZM k3;have Z:=hr.seal ts;have V:(results fn a.tmps).run P w=.ok (if h:y.toArray.size=1 then y.toArray[0] else .tuple y.toArray) w:=by
    have e:results fn a.tmps=(do let y <- fn.results.mapM (CY a.tmps);pure (if h:y.size=1 then y[0] else .tuple y)):=by
     unfold results
     congr 1
    rw[e,K6];simp only[l8,Sem.run_map,k1,i5,m9]
   refine⟨_,Je (bF g ts) pairs,V,?_,fun b O=>(Z.low.2.1 b (by rw[Z.low.1.1];exact O)).2.1,fun b O=>?_⟩
   ·cases rs with
    | one x =>
     have hl:y.length=1:=by rw[U];rfl
     obtain⟨u,Y,M⟩:=q2 0 x rfl;rw[dif_pos (by simpa using hl)];have:y.toArray[0]'(by simp[hl])=u:=by have:=Y;rw[g9 (by omega)] at this;simpa using this
     rw[this];exact oH (fun j hj=>by rw[fY _ _ _ _ hj];simp[tg]) M
    | tup xs =>
     have a0:¬y.toArray.size=1:=by simp only[B8,U];simpa [Sh.list,Sh.tupOk] using c4
     rw[dif_neg a0];exact⟨y.toArray,rfl,by simp[U,Sh.list],fun j x hj=>by obtain⟨u,Y,M⟩:=q2 j x hj;exact⟨u,by simpa using Y,M⟩⟩
   ·have:=Z.fresh b O;refine⟨this.1,?_⟩;show (match (bF g ts).owner b with | some (Sum.inr t)=>(fwd pairs t).map Sum.inr | _=>none)=none;rw[this.2]
 ·cases h
theorem vD:∀(args:List T) (k i:Nat),dL i (pY k args)=if k<=i then (args[i - k]?).getD .any else .any
 | [],k,i=>by simp[pY,dL]
 | v::vs,k,i=>by
  simp only[pY,dL];by_cases e:i=k
  ·subst e;simp
  ·rw[show (i==k)=false from by simpa using e,f9,vD vs (k+1) i];by_cases h:k<=i
   ·rw[m6 h,m6 (by omega),show i - k=(i - (k+1))+1 from by omega];simp
   ·rw[j7 h,j7 (by omega)]
end
inductive WD (P:Program):S->D->Prop
 | int (k:IntKind) (d:D):WD P (.int k) d
 | bool (d:D):WD P .bool d
 | str (d:D):WD P .str d
 | opq (d:D):WD P .opq d
 | sl (e:TypeId) (d:D) (row:List S) (hr:br P e=some row) (h1:d.rows.length<=9223372036854775807) (h2:∀i j s,i<d.rows.length->row[j]?=some s->WD P s (gd (d.rows.getD i []) j)):WD P (.sl e) d
theorem VD.wd{P:Program}{w:World}{prot:Nat->Nat}{s:S}{x:D}{v:Value}(h:VD P w prot s x v):WD P s x:=by
 induction h with
 | int k d=>exact .int k d
 | bool d=>exact .bool d
 | str d=>exact .str d
 | opq d h=>exact .opq d
 | sl e d A c row u J h1 y O U M=>exact .sl e d row J (m8 h1 y) M
def WC(P:Program):Ce->D->Prop
 | .d s,x=>WD P s x
 | .cptr cells _,x=>∀(j:Nat) s,cells[j]?=some s->WD P s (gd (x.rows.getD 0 []) j)
 | .own _ _ _,x=>x.rows.length<=9223372036854775807
 | _,_=>True
def WT(P:Program)(t:T):Prop:=
 match t.sh with
 | .one (.c c)=>WC P c (gd t.p 0)
 | .one (.agg xs)=>∀(j:Nat) c,xs[j]?=some c->WC P c (gd t.p j)
 | .tup _=>True
theorem ags{P:Program}{w:World}{g:G}{base:Nat}{c:Ce}{x:D}{v:Value}(h:VC P w g base c x v):WC P c x:=by
 cases c with
 | d s=>exact VD.wd h
 | cptr cells off =>obtain⟨b,o,_,_,h⟩:=h;intro j s J;obtain⟨u,_,h⟩:=h j s J;exact h.wd
 | own t M e =>
  obtain⟨row,_,h⟩:=h;rcases h with⟨y,_⟩ | ⟨cap,arr,E,_,h2,h3,_⟩
  ·show x.rows.length<=_;rw[y];simp
  ·exact m8 h2 h3.1
 | _=>trivial
theorem agT{P:Program}{w:World}{g:G}{base:Nat}{t:T}{v:Value}(h:VT P w g base t v):WT P t:=by
 obtain⟨sh,p⟩:=t;cases sh with
 | tup xs=>trivial
 | one x=>cases x with
  | c c=>exact ags h
  | agg xs =>obtain⟨J,_,_,h⟩:=h;intro j c y;obtain⟨u,_,h⟩:=h j c y;exact ags h
theorem abd{P:Program}{call:FuncId->List T->Option (T × Bool)}(a0:av P call){N:Nat}{ks:List Nat}{f:FuncId}{fn:Func}{rs:Sh}{args:List T}{key:Option Dom}{p:b8}
  (a4:∀O w,(callFunc f O).run P w=.ok (.enter f O) w) (hf:P.funcs[f]?=some fn) (h:(∀t∈args,WT P t)->bf P call N ks fn rs args=some (key,some (1,p))) (a1:rs.isW=false:=by rfl):aJ P f args ⟨rs,p⟩:=by
 refine aJ.of a1 ⟨a4,fun w prot O M Z=>?_⟩
 replace h:=h fun t ht=>by obtain⟨j,hj⟩:=F9 ht;obtain⟨u,_,h⟩:=M.2 j t hj;exact agT h
 letI:Low:=⟨prot,fun b=>w.heap[b]?,fun b=>b<w.heap.size,fun _=>none,0,fun _ _ _ _=>True⟩
 unfold bf at h
 split at h
 ·rename_i c W;cases hc:(jk fn.ntmps c&&Nat.ble args.length fn.ntmps&&Nat.ble fn.ntmps 1000000) with
  | false=>rw[hc] at h;cases h
  | true =>
   rw[hc,g6] at h;simp only[a9] at hc;obtain⟨hc,a3⟩:=hc;have a6:fn.ntmps<=1000000:=y9 a3;have a7:args.length<=fn.ntmps:=y9 hc.2;refine calls_of_wp hf W ?_;have a2:Rel P w (g0 w.heap.size prot) w.heap.size (start args) { tmps:=O++Array.replicate (fn.ntmps - O.size) undef,defers:= [] }:=by
    refine⟨fun i=>?_,fun id cs ds hl=>(by cases hl),fun b W=>⟨Z b W,rfl⟩,i8 _,⟨rfl,by simp only[D2,Array.size_replicate];have:=M.1;omega⟩,⟨⟨rfl,rfl⟩,fun b W=>⟨rfl,rfl,rfl,W⟩,fun t x hx=>by cases hx⟩,fun _ _ _ _=>trivial⟩;show VT P w (g0 w.heap.size prot) w.heap.size (dL i (pY 0 args)) _;rw[vD,m6 (n5 _),Nat.sub_zero];cases ht:args[i]? with
    | none=>trivial
    | some t =>
     obtain⟨u,hu,a5⟩:=M.2 i t ht;have hi:i<O.size:=(v8.1 hu).1;have:(O++Array.replicate (fn.ntmps - O.size) undef).getD i undef=u:=by rw[A7,v5 hi,hu];rfl
     rw[this];exact a5
   have hn:(O++Array.replicate (fn.ntmps - O.size) undef).size=fn.ntmps:=by have:=M.1;simp;omega
   have Y:∀(U:Act) (w':World) (J:St) (g':G) (y:Option Dom),dP (GQ P fn rs J)=some (y,some (1,p))->Rel P w' g' w.heap.size J U->Below w.heap.size w w'->U.defers = []/\∃v,(results fn U.tmps).run P w'=.ok v w'/\∃v' g',Ending.returned v=.returned v'/\Res P prot w w' ⟨rs,p⟩ v' g':=by
    intro U w' J g' y h1 V h3;obtain⟨p',k1,k2⟩:=mN h1;injection k2 with _ k2
    subst k2;obtain⟨v,g2,q1,q2,q3,q4⟩:=aeo V k1;exact⟨V.defers.1,v,q1,v,g2,rfl,h3,q2,q3,q4⟩
   exact Hu a0 c (start args) _ _ _ key (1,p) w (g0 w.heap.size prot) _ _ hc.1 h a2 hn (Below.refl _ _)
    ⟨fun J w' g' U y h1 V h3 h4=>Y U w' J g' y h1 V h4,fun j J w' g' U y h1=>(by cases h1),fun J w' g' U y h1 V h3 h4=>Y U w' J g' y h1 V h4⟩
 ·cases h
theorem YA{P:Program}{call:FuncId->List T->Option (T × Bool)}(a8:av P call){N:Nat}{ks:List Nat}{f:FuncId}{fn:Func}{cs:List Ce}{args:List T}{key:Option Dom}{p:b8}
  (b5:∀vs w,(callFunc f vs).run P w=.ok (.enter f vs) w) (hf:P.funcs[f]?=some fn) (h:(∀t∈args,WT P t)->agp P call N ks fn (.tup [.agg (.any::.any::.any::.any::cs)]) args=some (key,some (1,p))):aJ P f args ⟨.tup [.agg (.any::.any::.any::.any::cs)],p⟩:=by
 refine aJ.ofN rfl ⟨b5,fun a6 y w prot vs V a7=>?_,fun a6 y=>by injection y with y;injection y with y _;injection y with y;injection y with y _;cases y⟩;have b0:a6=cs:=by
  injection y with y
  injection y with y _
  injection y with y
  injection y with _ y
  injection y with _ y
  injection y with _ y
  injection y with _ y
  exact y.symm
 subst b0
 replace h:=h fun t ht=>by obtain⟨j,hj⟩:=F9 ht;obtain⟨u,_,h⟩:=V.2 j t hj;exact agT h
 letI:Low:=⟨prot,fun b=>w.heap[b]?,fun b=>b<w.heap.size,fun _=>none,0,fun _ _ _ _=>True⟩
 unfold agp at h
 split at h
 ·rename_i c Y hb a2;have a2:Y=a6:=by
   injection a2 with y
   injection y with y _
   injection y with y
   injection y with _ y
   injection y with _ y
   injection y with _ y
   injection y with _ y
   exact y.symm
  subst a2;cases hc:(jk fn.ntmps c&&Nat.ble args.length fn.ntmps&&Nat.ble fn.ntmps 1000000&&Y.all Ce.isD) with
  | false=>rw[hc] at h;cases h
  | true =>
   rw[hc,g6] at h;simp only[a9] at hc;obtain⟨⟨hc,b2⟩,c0⟩:=hc;have c1:fn.ntmps<=1000000:=y9 b2;have c3:args.length<=fn.ntmps:=y9 hc.2;refine calls_of_wp hf hb ?_;have b1:Rel P w (g0 w.heap.size prot) w.heap.size (start args) { tmps:=vs++Array.replicate (fn.ntmps - vs.size) undef,defers:= [] }:=by
    refine⟨fun i=>?_,fun id cs ds hl=>(by cases hl),fun b hb=>⟨a7 b hb,rfl⟩,i8 _,⟨rfl,by simp only[D2,Array.size_replicate];have:=V.1;omega⟩,⟨⟨rfl,rfl⟩,fun b hb=>⟨rfl,rfl,rfl,hb⟩,fun t x hx=>by cases hx⟩,fun b t _ ho=>by cases ho⟩;show VT P w (g0 w.heap.size prot) w.heap.size (dL i (pY 0 args)) _;rw[vD,m6 (n5 _),Nat.sub_zero];cases ht:args[i]? with
    | none=>trivial
    | some t =>
     obtain⟨u,hu,b6⟩:=V.2 i t ht;have hi:i<vs.size:=(v8.1 hu).1;have:(vs++Array.replicate (fn.ntmps - vs.size) undef).getD i undef=u:=by rw[A7,v5 hi,hu];rfl
     rw[this];exact b6
   have hn:(vs++Array.replicate (fn.ntmps - vs.size) undef).size=fn.ntmps:=by have:=V.1;simp;omega
   have a5:∀(W:Act) (w':World) (J:St) (g':G) (M:Option Dom),dP (Gx fn Y J)=some (M,some (1,p))->Rel P w' g' w.heap.size J W->Below w.heap.size w w'->W.defers = []/\∃v,(results fn W.tmps).run P w'=.ok v w'/\∃(b:Nat) (U:Nat->Nat),Ending.returned v=.returned (.pointer (some ⟨b,0,none⟩))/\Below w.heap.size w w'/\w.heap.size<=b/\(∀k,k<w.heap.size->U k=prot k)/\U b=0/\(∀k,w'.heap.size<=k->U k=0) /\
     ∃a0 E,w'.heap[b]?=some (.cells a0 E (0,0))/\a0.size=Y.length/\∀(j:Nat) s,Y[j]?=some (.d s)->∃u,a0[j]?=some u/\VD P w' U s (gd p j) u:=by
    intro W w' J g' M h1 Z h3;obtain⟨p',O,k2⟩:=mN h1;injection k2 with _ k2
    subst k2;unfold Gx at O
    split at O
    ·rename_i t a3
     split at O
     ·rename_i id hsh
      split at O
      ·rename_i a4 ds hl;cases a1:(a4==Y) with
       | false=>rw[a1] at O;cases O
       | true =>
        rw[a1,g6] at O;injection O with O
        have a1:a4=Y:=by simpa using a1
        subst a1;subst O;obtain⟨q1,q2,q3,q4,a0,E,q5,q6,q7⟩:=Z.box id a4 ds hl;have hv:=Z.env t;have hv:W.tmps.getD t undef=.pointer (some ⟨g'.θ id,0,none⟩):=by generalize cz t J.e J.r=q at *;obtain⟨sh,pp⟩:=q;simp only at hsh;subst hsh;exact hv
        refine⟨Z.defers.1,.pointer (some ⟨g'.θ id,0,none⟩),?_,g'.θ id,g'.prot,rfl,h3,q1,fun k hk=>(Z.low.2.1 k (by rw[Z.low.1.1];exact hk)).2.1,q3,fun k hk=>(Z.fresh k hk).1,a0,E,q5,q6,fun j s hs=>?_⟩
        ·have a3:fn.results = #[.tmp t]:=by cases c2:fn.results;simp_all
         unfold results;rw[a3];have b4:W.tmps[t]?.getD undef=.pointer (some ⟨g'.θ id,0,none⟩):=by rw[<- A7];exact hv
         simp[l8,m9,b4]
        ·have b3:=(g7.1 hs).1;obtain⟨u,u1,u2⟩:=q7 j _ hs;exact⟨u,u1,by rw[fY _ _ _ _ b3,m0];exact u2⟩
      ·cases O
     ·cases O
    ·cases O
   exact Hu a8 c (start args) _ _ _ key (1,p) w (g0 w.heap.size prot) _ _ hc.1 h b1 hn (Below.refl _ _)
    ⟨fun J w' g' W M h1 Z h3 h4=>a5 W w' J g' M h1 Z h4,fun j J w' g' W M h1=>(by cases h1),fun J w' g' W M h1 Z h3 h4=>a5 W w' J g' M h1 Z h4⟩
 ·cases h
def LI:List Ce->List S->List S
 | .any::cs,_::az=>.opq::LI cs az
 | _::cs,a::az=>a::LI cs az
 | _,_ => []
def Qs:List Ce->List Ce
 | [] => []
 | .any::cs=>.d .opq::Qs cs
 | c::cs=>c::Qs cs
def vi:List Ce->Nat->b8->(Nat->Value)->b8
 | [],_,_,_ => []
 | .any::cs,k,p,zs=>.v (zs k)::vi cs (k+1) p.tail zs
 | _::cs,k,p,zs=>gd p 0::vi cs (k+1) p.tail zs
theorem XL:∀(cs:List Ce) (j:Nat) c,cs[j]?=some c->(Qs cs)[j]?=some (bif c==.any then .d .opq else c)
 | [],j,c,h=>by simp at h
 | c0::cs,0,c,h=>by
  have:c0=c:=by simpa using h
  subst this;cases c0 <;> rfl
 | c0::cs,j+1,c,h=>by have:=XL cs j c (by simpa using h);cases c0 <;> simpa [Qs] using this
theorem Xg:∀(cs:List Ce),(Qs cs).length=cs.length
 | []=>rfl
 | c::cs=>by have:=Xg cs;cases c <;> simp[Qs,this]
theorem LR(y:Nat->Value):∀(cs:List Ce) (k:Nat) (p:b8) (j:Nat) c,cs[j]?=some c->gd (vi cs k p y) j=bif c==.any then .v (y (k+j)) else gd p j
 | [],k,p,j,c,h=>by simp at h
 | c0::cs,k,p,0,c,h=>by
  have:c0=c:=by simpa using h
  subst this;cases c0 <;> rfl
 | c0::cs,k,p,j+1,c,h=>by have:=LR y cs (k+1) p.tail j c (by simpa using h);rw[fq,show k+1+j=k+(j+1) from by omega] at this;rw[<- this];cases c0 <;> rfl
theorem Yx:∀(cs:List Ce) (az:List S),az.length=cs.length->(LI cs az).length=cs.length/\∀(j:Nat) s,(LI cs az)[j]?=some s->∃c a,cs[j]?=some c/\az[j]?=some a/\s=bif c==.any then .opq else a
 | [],[],_=>⟨rfl,fun j s h=>by simp[LI] at h⟩
 | [],_::_,h=>by simp at h
 | _::_,[],h=>by simp at h
 | c::cs,a::az,h=>by
  obtain⟨J,M⟩:=Yx cs az (by simpa using h);have e:LI (c::cs) (a::az)=(bif c==.any then .opq else a)::LI cs az:=by cases c <;> rfl
  rw[e];refine⟨by simp[J],fun j s y=>?_⟩;cases j with
  | zero=>exact⟨c,a,rfl,rfl,by simpa using y.symm⟩
  | succ j =>obtain⟨W,O,h1,U,V⟩:=M j s (by simpa using y);exact⟨W,O,by simpa using h1,by simpa using U,V⟩
theorem aJ.ofT{P:Program}{f:FuncId}{cs:List Ce}{az:List S}{p q:b8}{rest:List T}(V:az.length=cs.length)(a4:cs.all Ce.thr=true)
  (H:∀zs:Nat->Value,aJ P f (⟨.one (.agg ((LI cs az).map .d)),vi cs 0 p zs⟩::rest) ⟨.one (.agg (Qs cs)),vi cs 0 q zs⟩) :
  aJ P f (⟨.one (.agg (az.map .d)),p⟩::rest) ⟨.tup [.agg (.kb false::.any::.any::.any::cs)],q⟩:=by
 have a8:=((H fun _=>undef).n rfl).1;refine aJ.ofN rfl ⟨a8,⟨fun M y=>?_,fun M y w prot vs O Z=>?_⟩⟩
 ·injection y with y;injection y with y _;injection y with y;injection y with y _;cases y
 have a1:M=cs:=by
  injection y with y
  injection y with y _
  injection y with y
  injection y with _ y
  injection y with _ y
  injection y with _ y
  injection y with _ y
  exact y.symm
 subst a1;obtain⟨u,hu,b0⟩:=O.2 0 _ rfl;obtain⟨J,rfl,W,a5⟩:∃J,u=.agg J/\VCs P w (g0 w.heap.size prot) w.heap.size (az.map .d) p J:=b0;have Y:lq P prot w (⟨.one (.agg ((LI M az).map .d)),vi M 0 p fun j=>(J[j]?).getD undef⟩::rest) vs:=by
  refine⟨O.1,fun j t hj=>?_⟩;cases j with
  | succ j=>exact O.2 (j+1) t (by simpa using hj)
  | zero =>
   have:t=_:=(by simpa using hj:_=t).symm;subst this;refine⟨_,hu,J,rfl,?_⟩;obtain⟨k1,k2⟩:=Yx M az V;refine⟨by rw[W];simp[k1,V],fun j c hc=>?_⟩;rw[w9] at hc;cases hs:(LI M az)[j]? with
   | none=>rw[hs] at hc;cases hc
   | some s =>
    rw[hs] at hc;injection hc with hc
    subst hc;obtain⟨c0,a0,m1,m2,m3⟩:=k2 j s hs;obtain⟨v,n1,U⟩:=a5 j (.d a0) (by rw[w9,m2];rfl);refine⟨v,n1,?_⟩;rw[LR _ _ _ _ _ _ m1,m3];cases b1:(c0==Ce.any) with
    | false=>exact U
    | true =>
     have hz:(J[0+j]?).getD undef=v:=by rw[m0,n1];rfl
     show VD P w prot .opq (.v ((J[0+j]?).getD undef)) v;rw[hz];exact VD.opq (.v v) (VD.flat U)
 refine (((H fun j=>(J[j]?).getD undef).n rfl).2 w prot vs Y Z).mono ?_;rintro e w' ⟨v,g',rfl,hR⟩;obtain⟨us,rfl,a3,a7⟩:∃us,v=.agg us/\VCs P w' g' w.heap.size (Qs M) (vi M 0 q fun j=>(J[j]?).getD undef) us:=hR.val;refine⟨us,g'.prot,rfl,hR.below,hR.prot,fun k hk=>(hR.fresh k hk).1,by rw[a3,Xg],fun j c hc=>?_⟩;obtain⟨u,n1,U⟩:=a7 j _ (XL M j c hc);refine⟨u,n1,?_⟩;rw[LR _ _ _ _ _ _ hc] at U;have a2:=i9.1 a4 c (A2 hc);cases c with
 | any =>
  refine .inr ⟨rfl,J,hu,?_⟩;have U:VD P w' g'.prot .opq (.v ((J[0+j]?).getD undef)) u:=U;have a6:j<J.size:=by have:=(g7.1 hc).1;rw[W];simp;omega
  generalize hx:D.v ((J[0+j]?).getD undef)=x at U;cases U;subst hx;show J[j]?=some ((J[0+j]?).getD undef);rw[m0,n8 a6];rfl
 | d s=>exact .inl ⟨s,rfl,U⟩
 | _=>simp[Ce.thr,Ce.isD] at a2
theorem Tn(x:Sh1):x.ces.length=x.size:=by cases x <;> rfl
theorem acW:∀ {xs:List Sh1} {j i:Nat} {z:Sh1},xs[j]?=some z->i<z.size->tg xs j+i<(xs.flatMap Sh1.ces).length
 | [],j,i,z,h,_=>by simp at h
 | x::xs,0,i,z,h,hi=>by simp only[p9,b7] at h;subst h;simp only[tg,List.take_zero,List.foldr_nil,G5,i6,Tn];omega
 | x::xs,j+1,i,z,h,hi=>by have:=acW (xs:=xs) (j:=j) (by simpa using h) hi;simp only[tg,F5,O1,G5,i6,Tn] at this ⊢;omega
section
variable [Low] {P:Program} {w w':World} {g g':G} {base:Nat} {σ:St} {a:Act}
theorem ZH(Z:Rel P w g base σ a){fn:Func}{cs2:List Ce}{res:List Sh1}{p:b8}(h:iX P fn (.tup (.agg [.any]::.agg cs2::res)) σ=some p) :
  ∃v g',(results fn a.tmps).run P w=.ok v w/\g'.old=g.old/\(∀k,g.owner k=none->g'.prot k=g.prot k/\g'.owner k=none)/\(∀b,w.heap.size<=b->g'.prot b=0/\g'.owner b=none) /\
   (g'.prot (g.θ 1000000)=0/\∀t,g'.owner (g.θ 1000000)≠some (.inr t))/\(∃O E,w.heap[g.θ 1000000]?=some (.cells O E (0,0))/\VCs P w g' base cs2 (sub p 1 cs2.length) O) /\
   VT P w g' base ⟨PB res,sub p (1+cs2.length) (res.flatMap Sh1.ces).length⟩ v:=by
 unfold iX at h
 split at h
 ·rename_i c8 c7 cs ds a8 p0 he a5 a4;simp only[Sh.tup.injEq,O3,Sh1.agg.injEq,true_and] at he;obtain⟨rfl,rfl⟩:=he;generalize c5:(Sh1.agg (cs.map sf)::a8)=xs at h;generalize c9:aaT (eS xs) (eS (.agg cs2::res))=ts at h;generalize b0:eg (eS xs) (eS (.agg cs2::res))=pairs at h;cases hc:(fit (xs.map (Sh1.map (fG ts))) (.agg cs2::res)&&cM (pairs.map (·.1))&&cM (pairs.map (·.2))) with
  | false=>rw[hc] at h;cases h
  | true =>
   rw[hc,g6] at h;injection h with h
   subst h;simp only[a9] at hc;obtain⟨⟨c1,c2⟩,c3⟩:=hc;obtain⟨b1,b2,b3,b4,O,E,b5,b6⟩:=Z.box _ _ _ a5;obtain⟨J,k1,k2⟩:=zo Z a4;have a1:=Dc cs ds 0;have c4:VL P w g base xs (jW cs ds 0++p0) (.agg O::J):=by
    rw[<- c5];refine⟨oH (p:=jW cs ds 0) (fun j M=>(yK ?_).symm) ⟨O,rfl,Oj b6⟩,?_⟩
    ·rw[a1];simpa [Sh1.size] using M
    ·rw[show (Sh1.agg (cs.map sf)).size=(jW cs ds 0).length from by rw[a1];simp[Sh1.size],List.drop_left];exact k2
   have k3:=aaP c2 c3 c1 (fun q hq=>by rw[<- b0];exact hq) (TW (zS g ts w) c4);have hs:=Z.seal ts;obtain⟨a6,c0⟩:=k3;obtain⟨c6,e9,a2⟩:=a6;injection e9 with e9
   subst e9;obtain⟨Y,q2⟩:=ZM c0;have a3:(results fn a.tmps).run P w=.ok (if h:J.toArray.size=1 then J.toArray[0] else .tuple J.toArray) w:=by
    have e:results fn a.tmps=(do let J <- fn.results.mapM (CY a.tmps);pure (if h:J.size=1 then J[0] else .tuple J)):=by
     unfold results
     congr 1
    rw[e,K6];simp only[l8,Sem.run_map,k1,i5,m9]
   have U:∀k,g.owner k=none->(Je (bF g ts) pairs).prot k=g.prot k/\(Je (bF g ts) pairs).owner k=none:=fun k hk=>by refine⟨HE hk,?_⟩;show (match (bF g ts).owner k with | some (Sum.inr t)=>(fwd pairs t).map Sum.inr | _=>none)=none;rw[show (bF g ts).owner k=none from hk]
   refine⟨_,Je (bF g ts) pairs,a3,rfl,U,fun b hb=>?_,⟨?_,fun t=>?_⟩,⟨O,E,b5,?_⟩,?_⟩
   ·obtain⟨z1,z2⟩:=Z.fresh b hb;obtain⟨y1,y2⟩:=U b z2;exact⟨y1.trans z1,y2⟩
   ·show (bF g ts).prot _=0;rw[FY b2];exact b3
   ·show (match (bF g ts).owner (g.θ 1000000) with | some (Sum.inr t)=>(fwd pairs t).map Sum.inr | _=>none)≠_;rw[show (bF g ts).owner (g.θ 1000000)=some (.inl 1000000) from b2];simp
   ·refine⟨a2.1,fun j c M=>?_⟩;obtain⟨u,V,hv⟩:=a2.2 j c M;refine⟨u,V,?_⟩;rw[fY _ _ _ _ (g7.1 M).1,show 1+j=j+1 from by omega,ap];exact hv
   ·have a0:∀i j n,i+j<n->gd (sub (D0::(jW cs ds 0++p0)) (1+cs2.length) n) (i+j)=gd ((jW cs ds 0++p0).drop (Sh1.agg cs2).size) (i+j):=fun i j n h=>by rw[fY _ _ _ _ h,show 1+cs2.length+(i+j)=(cs2.length+(i+j))+1 from by omega,ap,Lu];rfl
    cases res with
    | nil =>have hl:J = []:=v7 (by rw[Y];rfl);subst hl;exact⟨#[],rfl,rfl,fun j x M=>by simp at M⟩
    | cons x rest=>cases rest with
     | nil =>
      have hl:J.length=1:=by rw[Y];rfl
      obtain⟨u,V,W⟩:=q2 0 x rfl;rw[dif_pos (by simpa using hl)];have:J.toArray[0]'(by simp[hl])=u:=by have:=V;rw[g9 (by omega)] at this;simpa using this
      rw[this];refine oH (fun j M=>?_) W;rw[fY _ _ _ _ M];have:=a0 0 j ([x].flatMap Sh1.ces).length (by simp[Tn];exact M);simp only[m0] at this;rw[show tg [x] 0+j=j from by simp[tg]];exact this.symm
     | cons y ys =>
      have a7:¬J.toArray.size=1:=by simp only[B8,Y,D8];omega
      rw[dif_neg a7];refine⟨J.toArray,rfl,by simp[Y],fun j z M=>?_⟩;obtain⟨u,V,W⟩:=q2 j z M;refine⟨u,by simpa using V,oH (fun i hi=>?_) W⟩;rw[fY _ _ _ _ hi,fY _ _ _ _ hi];exact (a0 _ _ _ (acW M hi)).symm
 ·cases h
end
theorem cN{P:Program}{call:FuncId->List T->Option (T × Bool)}(a5:av P call){N:Nat}{ks:List Nat}{f:FuncId}{fn:Func}{rs:Sh}{O:List Ce}{V:b8}{rest:List T}{key:Option Dom}{p:b8}
  (b3:∀M w,(callFunc f M).run P w=.ok (.enter f M) w) (hf:P.funcs[f]?=some fn) (h:WT P ⟨.one (.agg O),V⟩->(∀t∈rest,WT P t)->jT P call N ks fn rs (⟨.tup [.agg O],V⟩::rest)=some (key,some (1,p))) (a6:rs.isP=true:=by rfl):aJ P f (⟨.tup [.agg O],V⟩::rest) ⟨rs,p⟩:=by
 refine aJ.ofP a6 ⟨b3,fun c2 c3 c1 cs2 res a0 a3 w g b M y=>?_⟩;simp only[O3,T.mk.injEq,Sh.tup.injEq,Sh1.agg.injEq,E2] at a0;obtain⟨⟨rfl,rfl⟩,rfl⟩:=a0;have a3:rs=.tup (.agg [.any]::.agg cs2::res):=a3;subst a3;obtain⟨b2,E,b6,a4⟩:=y.cells
 replace h:=h (fun j c hj=>by obtain⟨u,_,hv⟩:=a4.2 j c hj;exact ags hv) fun t ht=>by obtain⟨j,hj⟩:=F9 ht;obtain⟨u,_,h⟩:=y.args j t hj;exact agT h
 letI:Low:=⟨g.prot,fun k=>w.heap[k]?,g.old,fun _=>none,b,fun _ _ _ _=>True⟩
 unfold jT at h
 split at h
 ·rename_i c c5 c4 c0 hb he;simp only[O3,T.mk.injEq,Sh.tup.injEq,Sh1.agg.injEq,E2] at he;obtain⟨⟨rfl,rfl⟩,rfl⟩:=he;cases hc:(jk fn.ntmps c&&Nat.ble (⟨.tup [.agg O],V⟩::rest:List T).length fn.ntmps&&Nat.ble fn.ntmps 1000000) with
  | false=>rw[hc] at h;cases h
  | true =>
   rw[hc,g6] at h;simp only[a9] at hc;obtain⟨hc,a8⟩:=hc;have b1:fn.ntmps<=1000000:=y9 a8;have c6:rest.length+1<=fn.ntmps:=y9 hc.2;refine calls_of_wp hf hb ?_;have a2:(#[Value.pointer (some ⟨b,0,none⟩)]++M).size=rest.length+1:=by simp[y.size];omega
   have hn:(#[Value.pointer (some ⟨b,0,none⟩)]++M++Array.replicate (fn.ntmps - (#[Value.pointer (some ⟨b,0,none⟩)]++M).size) undef).size=fn.ntmps:=by rw[D2,a2];simp;omega
   have a7:Rel P w g 0 (GJ O V rest) { tmps:= #[Value.pointer (some ⟨b,0,none⟩)]++M++Array.replicate (fn.ntmps - (#[Value.pointer (some ⟨b,0,none⟩)]++M).size) undef,defers:= [] }:=by
    refine⟨fun i=>?_,fun id cs ds hl=>?_,y.fresh,n5 _,⟨rfl,by show Array.size _<=_;rw[hn];exact b1⟩,⟨⟨rfl,y.box⟩,fun k hk=>⟨(y.old k hk).1,rfl,rfl,(y.old k hk).2⟩,fun t x hx=>by cases hx⟩,fun _ _ _ _=>trivial⟩
    ·show VT P w g 0 (dL i (pY 0 (.c (.ptr 1000000 0) D0::rest))) _;rw[vD,m6 (n5 _),Nat.sub_zero];cases i with
     | zero =>
      have:(#[Value.pointer (some ⟨b,0,none⟩)]++M++Array.replicate (fn.ntmps - (#[Value.pointer (some ⟨b,0,none⟩)]++M).size) undef).getD 0 undef=.pointer (some ⟨b,0,none⟩):=by rw[A7,v5 (by rw[a2];omega),v5 (by simp)];rfl
      rw[this];show _=Value.pointer (some ⟨g.θ 1000000,0,none⟩);rw[y.box]
     | succ i =>
      simp only[J0];cases ht:rest[i]? with
      | none=>trivial
      | some t =>
       obtain⟨u,hu,b5⟩:=y.args i t ht;have hi:i<M.size:=(v8.1 hu).1;have:(#[Value.pointer (some ⟨b,0,none⟩)]++M++Array.replicate (fn.ntmps - (#[Value.pointer (some ⟨b,0,none⟩)]++M).size) undef).getD (i+1) undef=u:=by rw[A7,v5 (by rw[a2,<- y.size];omega),D7 (by simp)];simp[hu]
       rw[this];exact b5
    ·have hl:(bif id==1000000 then some (O,sub V 0 O.length) else none)=some (cs,ds):=hl;cases Z:(id==1000000) with
     | false=>rw[Z] at hl;cases hl
     | true =>
      rw[Z,g6] at hl;have Z:id=1000000:=by simpa using Z
      subst Z;injection hl with hl
      injection hl with l1 l2
      subst l1;subst l2;refine⟨n5 _,by rw[y.box];exact y.owner,by rw[y.box];exact y.prot,fB _ _ _,b2,E,by rw[y.box];exact b6,a4.1,fun j c hj=>?_⟩;obtain⟨u,hu,hv⟩:=a4.2 j c hj;exact⟨u,hu,by rw[fY _ _ _ _ (g7.1 hj).1,m0];exact hv⟩
   have a1:∀(Y:Act) (w':World) (U:St) (g':G) (J:Option Dom),dP (iX P fn (.tup (.agg [.any]::.agg cs2::res)) U)=some (J,some (1,p))->Rel P w' g' 0 U Y->Below 0 w w'->Y.defers = []/\∃v,(results fn Y.tmps).run P w'=.ok v w'/\∃v' g',Ending.returned v=.returned v'/\amz P w w' g g' b cs2 res p v':=by
    intro Y w' U g' J h1 W h3;obtain⟨p',k1,k2⟩:=mN h1;injection k2 with _ k2
    subst k2;obtain⟨v,g2,q1,q2,q3,q4,q5,q6,q7⟩:=ZH W k1;have b4:g'.θ 1000000=b:=W.low.1.2;rw[b4] at q5 q6;refine⟨W.defers.1,v,q1,v,g2,rfl,h3.os,h3.tape,h3.output,h3.size,fun k hk=>?_,q4,q5,q6,q7⟩;have b0:g'.old k:=by rw[W.low.1.1];exact hk
    obtain⟨z1,z2,z3,z4⟩:=W.low.2.1 k b0;obtain⟨y1,y2⟩:=q3 k z1;exact⟨z3,y1.trans z2,y2⟩
   exact Hu a5 c (GJ O V rest) _ _ _ key (1,p) w g _ _ hc.1 h a7 hn (Below.refl _ _)
    ⟨fun U w' g' Y J h1 W h3 h4=>a1 Y w' U g' J h1 W h4,fun j U w' g' Y J h1=>(by cases h1),fun U w' g' Y J h1 W h3 h4=>a1 Y w' U g' J h1 W h4⟩
 ·cases h
theorem TR.wd{P:Program}{w:World}{lab:Nat->List (Nat × Nat)->Nat->Prop}{π:List (Nat × Nat)}{s:S}{x:D}{v:Value}(h:TR P w lab π s x v):WD P s x:=by
 induction h with
 | int π k d=>exact .int k d
 | bool π d=>exact .bool d
 | str π d=>exact .str d
 | nil π e d A y h =>obtain⟨row,y⟩:=C8.1 y;exact .sl e d row y (by rw[h];simp) (fun i j s hi=>by rw[h] at hi;simp at hi)
 | sl π e d b cap row O u y h1 J U W Y V Z M=>exact .sl e d row y (m8 h1 J) M
open Classical in
def Nu(ex:Nat->Option (Nat × b8)):Nat->Nat->Option (Nat × b8)
 | _,0=>none
 | k,m+1=>match ex k with
  | some o=>some o
  | none=>Nu ex (k+1) m
theorem Hv{step:b8->Out}(st:Nat->b8)(ex:Nat->Option (Nat × b8))(fin:Nat × b8){n:Nat}
  (h1:∀k,k<n->step (st k)=some ((ex k).getD (0,st (k+1)))) (J:∀k o,ex k=some o->o.1≠0) (O:step (st n)=some fin) (M:fin.1≠0) :
  ∀(m k N:Nat),k+m=n->m<N->aX step N (st k)=some ((Nu ex k m).getD fin):=by
 intro m
 induction m with
 | zero =>
  intro k N hk W;obtain⟨N,rfl⟩:∃y,N=y+1:=⟨N - 1,by omega⟩;obtain rfl:k=n:=by omega
  obtain⟨c,pay⟩:=fin;rw[aX,O];cases c with
  | zero=>exact absurd rfl M
  | succ c=>rfl
 | succ m U =>
  intro k N hk W;obtain⟨N,rfl⟩:∃y,N=y+1:=⟨N - 1,by omega⟩;rw[aX,h1 k (by omega),Nu];cases V:ex k with
  | none=>simp only[Option.getD_none];exact U (k+1) N (by omega) (by omega)
  | some o =>
   obtain⟨c,pay⟩:=o;have:=J k _ V;cases c with
   | zero=>exact absurd rfl this
   | succ c=>rfl
theorem cB{P:Program}{f:FuncId}{fn:Func}(M:P.funcs[f]?=some fn)(y:(fn.name == "runtime.NumGoroutine")=false:=by kernel_rfl)(O:fn.body.isNone=false:=by kernel_rfl)(J:Array Value)(w:World):(callFunc f J).run P w=.ok (.enter f J) w:=by unfold callFunc;simp only[l8,run_program,i5,M,y,O,y4,if_false,m9]
theorem au{P:Program}{call:FuncId->List T->Option (T × Bool)}(y:av P call){N:Nat}{ks:List Nat}{f:FuncId}{fn:Func}{rs:Sh}{args:List T}{p:b8}
  (M:P.funcs[f]?=some fn) (h:(∀t∈args,WT P t)->bf P call N ks fn rs args=some (none,some (1,p))) (h1:(fn.name == "runtime.NumGoroutine")=false:=by kernel_rfl) (O:fn.body.isNone=false:=by kernel_rfl) (J:rs.isW=false:=by rfl):aJ P f args ⟨rs,p⟩:=abd y (cB M h1 O) M h J
theorem fC{y:Type}{p:y->Prop}{a:y}{l:List y}(h:p a/\∀x∈l,p x):∀x∈a::l,p x:=List.forall_mem_cons.2 h
theorem fN{y:Type}{p:y->Prop}:∀x∈([]:List y),p x:=List.forall_mem_nil p
abbrev Ent:=FuncId × (List T->Option (T × Bool))
def find:List Ent->FuncId->List T->Option (T × Bool)
 | [],_,_=>none
 | e::r,f,args=>bif Nat.beq e.1 f then e.2 args else find r f args
def ay(P:Program)(e:Ent):Prop:=∀args r,e.2 args=some (r,true)->aJ P e.1 args r
theorem al{P:Program}:∀ {l:List Ent},(∀e∈l,ay P e)->av P (find l)
 | [],_,f,args,r,h=>by cases h
 | e::l,hl,f,args,r,h=>by
  unfold find at h;cases y:Nat.beq e.1 f with
  | false =>rw[y,f9] at h;exact al (fun M J=>hl M (by simp[J])) f args r h
  | true =>rw[y,g6] at h;obtain rfl:=Nat.eq_of_beq_eq_true y;exact hl e (by simp) args r h
def e1(s:Sh)(F:b8->T × Bool):List T->Option (T × Bool)
 | [v]=>bif v.sh==s then some (F v.p) else none
 | _=>none
def e2(s s':Sh)(F:b8->b8->T × Bool):List T->Option (T × Bool)
 | [v,u]=>bif v.sh==s&&u.sh==s' then some (F v.p u.p) else none
 | _=>none
theorem cK{P:Program}{f:FuncId}{s:Sh}{F:b8->T × Bool}(h:∀p,(F p).2=true->aJ P f [⟨s,p⟩] (F p).1):ay P (f,e1 s F):=by
 intro args r y
 match args,y with
 | [],y=>cases y
 | [⟨sh,p⟩],y =>
  have J:(bif sh==s then some (F p) else none)=some (r,true):=y;cases M:(sh==s) with
  | false=>rw[M] at J;cases J
  | true =>
   rw[M] at J;simp only[g6,b7] at J;have e:sh=s:=by simpa using M
   subst e;have:=h p;rw[J] at this;exact this rfl
 | _::_::_,y=>cases y
theorem bm{P:Program}{f:FuncId}{s s':Sh}{F:b8->b8->T × Bool}(h:∀p q,(F p q).2=true->aJ P f [⟨s,p⟩,⟨s',q⟩] (F p q).1):ay P (f,e2 s s' F):=by
 intro args r y
 match args,y with
 | [],y=>cases y
 | [_],y=>cases y
 | [⟨sh,p⟩,⟨sh',q⟩],y =>
  have J:(bif sh==s&&sh'==s' then some (F p q) else none)=some (r,true):=y;cases M:(sh==s&&sh'==s') with
  | false=>rw[M] at J;cases J
  | true =>rw[M] at J;simp only[g6,b7] at J;simp only[a9,u7] at M;obtain⟨rfl,rfl⟩:=M;have:=h p q;rw[J] at this;exact this rfl
 | _::_::_::_,y=>cases y
abbrev bo:Option Dom:=none
abbrev sd(s:S):Sh:=.one (.c (.d s))
abbrev si:S:=.int .i64
abbrev rb:Sh:=sd .bool
abbrev ri:Sh:=sd si
abbrev ag(l:List S):Sh:=.one (.agg (l.map .d))
abbrev ob(x:Bool):Out:=some (1,[.b x])
abbrev oi(x:Int):Out:=some (1,[.i x])
abbrev ex(j:Nat)(p:b8):Out:=some (j+2,p)
abbrev nx(p:b8):Out:=some (0,p)
def nd(c:Bool)(o:Out):Out:=bif c then o else none
abbrev w64(x:Int):Int:=IntKind.i64.wrap x
theorem bD{x:Int}(h : -9223372036854775808<=x)(y:x<=9223372036854775807):w64 x=x:=by simp only[w64,IntKind.wrap,IntKind.signed,IntKind.bits];simp;omega
theorem bK{k len:Nat}(h:k<len):ah (k:Int) len=true:=by simp only[ah,a9,g5];omega
def ga(E:b8->b8->Bool)(z u:D):Bool:=(z.rows.length==u.rows.length)&&(List.range z.rows.length).all fun k=>E (z.rows.getD k []) (u.rows.getD k [])
theorem ib{E:b8->b8->Bool}(h:∀r,E r r=true)(z:D):ga E z z=true:=by simp[ga,h]
theorem GZ{ex:Nat->Option (Nat × b8)}{o:Nat × b8}{C:Nat->Bool}(h:∀k,ex k=if C k then none else some o):∀(m k:Nat),Nu ex k m=if (List.range m).all (fun j=>C (k+j)) then none else some o
 | 0,k=>by simp[Nu]
 | m+1,k=>by
  rw[Nu,h];by_cases hc:C k=true
  ·rw[m6 hc];simp only;rw[GZ h m (k+1),M2,N4,List.all_map];simp only[F8,hc,y7]
   congr 2
   congr 1
   funext j;simp only[Function.comp]
   congr 1
   omega
  ·rw[j7 hc];simp[M2,hc]
theorem Sr{L:b8->Out}{z u x y:D}{E:b8->b8->Bool}(U:z.rows.length<=9223372036854775807)(M:z.rows.length=u.rows.length)
  (J:∀k:Int,L [z,u,x,y,.i k]=bif decide (k<z.rows.length) then nd (ah k z.rows.length) (nd (ah k u.rows.length) (bif !E (z.rows.getD k.toNat []) (u.rows.getD k.toNat []) then ob false else nx [z,u,x,y,.i (w64 (k+1))])) else ex 0 [z,u,x,y,.i k])
  {N:Nat} (O:z.rows.length<N):aX L N [z,u,x,y,.i 0]=some (if ga E z u then (2,[z,u,x,y,.i z.rows.length]) else (1,[.b false])):=by
 have:=Hv (step:=L) (fun k => [z,u,x,y,.i (k:Int)]) (fun k=>if E (z.rows.getD k []) (u.rows.getD k []) then none else some (1,[.b false])) (2,[z,u,x,y,.i z.rows.length]) (n:=z.rows.length) (fun k hk=>?_) (fun k o h=>?_) ?_ (by simp) z.rows.length 0 N (by omega) O
 ·simp only[j9] at this;rw[this,GZ (o:=(1,[.b false])) (C:=fun k=>E (z.rows.getD k []) (u.rows.getD k [])) (fun k=>rfl)];simp only[m0,ga,<- M,s9,y7]
  split <;> rfl
 ·show L [z,u,x,y,.i (k:Int)]=_;rw[J,show decide ((k:Int)<z.rows.length)=true from by simpa using hk,g6,bK hk,bK (by omega),show ((k:Int)).toNat=k from rfl,bD (by omega) (by omega)];cases E (z.rows.getD k []) (u.rows.getD k []) <;> rfl
 ·split at h
  ·cases h
  ·injection h with h;rw[<- h];simp
 ·show L [z,u,x,y,.i (z.rows.length:Int)]=_;rw[J,show decide ((z.rows.length:Int)<z.rows.length)=false from by simp,f9]
def left(s:Nat)(n:Int):Int:=if (s:Int)<=n then n - s else -1
theorem Ex{L:b8->Out}(st:Nat->b8)(n:Nat)(C:Nat->Bool)(v fin:b8)(j:Nat)(h1:∀k,k<n->L (st k)=some (bif C k then (0,st (k+1)) else (1,v)))(y:L (st n)=some (j+2,fin)){N:Nat}(J:n<N) :
  aX L N (st 0)=some (bif (List.range n).all C then (j+2,fin) else (1,v)):=by
 have:=Hv (step:=L) st (fun k=>if C k then none else some (1,v)) (j+2,fin) (n:=n) (fun k hk=>?_) (fun k o h=>?_) y (by simp) n 0 N (by omega) J
 ·rw[this,GZ (o:=(1,v)) (C:=C) (fun k=>rfl)];simp only[m0];have e:(fun j=>C j)=C:=rfl;rw[e];cases (List.range n).all C <;> rfl
 ·rw[h1 k hk];cases C k <;> rfl
 ·split at h
  ·cases h
  ·injection h with h;rw[<- h];simp
def e3(s s' y:Sh)(F:b8->b8->b8->T × Bool):List T->Option (T × Bool)
 | [v,u,t]=>bif v.sh==s&&(u.sh==s'&&t.sh==y) then some (F v.p u.p t.p) else none
 | _=>none
theorem gW{P:Program}{f:FuncId}{s s' J:Sh}{F:b8->b8->b8->T × Bool}(h:∀p q r,(F p q r).2=true->aJ P f [⟨s,p⟩,⟨s',q⟩,⟨J,r⟩] (F p q r).1):ay P (f,e3 s s' J F):=by
 intro args r y
 match args,y with
 | [],y=>cases y
 | [_],y=>cases y
 | [_,_],y=>cases y
 | [⟨sh,p⟩,⟨sh',q⟩,⟨sh'',o⟩],y =>
  have M:(bif sh==s&&(sh'==s'&&sh''==J) then some (F p q o) else none)=some (r,true):=y;cases O:(sh==s&&(sh'==s'&&sh''==J)) with
  | false=>rw[O] at M;cases M
  | true =>rw[O] at M;simp only[g6,b7] at M;simp only[a9,u7] at O;obtain⟨rfl,rfl,rfl⟩:=O;have:=h p q o;rw[M] at this;exact this rfl
 | _::_::_::_::_,y=>cases y
set_option maxRecDepth 4096
theorem fi{P:Program}{e:TypeId}{p:b8}(h:WT P ⟨sd (.sl e),p⟩):(gd p 0).rows.length<=9223372036854775807:=by
 have h:WD P (.sl e) (gd p 0):=h;cases h with
 | sl _ _ row _ h _=>exact h
def akG(p q:b8):Bool:=(gd p 0).int==(gd q 0).int
def PN:D->D->Bool:=ga (fun r s=>akG r s)
theorem sn(z:D):PN z z=true:=ib (fun r=>by simp[akG]) z
def Uc:List S:= [si,si]
def aaB(p q:b8):Bool:=((gd p 0).int==(gd q 0).int)&&(((gd p 1).int==(gd q 1).int)&&(true))
theorem XU(p:b8):aaB p p=true:=by simp[aaB]
def UU:D->D->Bool:=ga (fun r s=>aaB (sub r 0 2) (sub s 0 2))
theorem EN(z:D):UU z z=true:=ib (fun r=>by exact XU _) z
def aI:List S:= [si,si]
def TH(p q:b8):Bool:=((gd p 0).int==(gd q 0).int)&&(((gd p 1).int==(gd q 1).int)&&(true))
theorem Uw(p:b8):TH p p=true:=by simp[TH]
def xJ:D->D->Bool:=ga (fun r s=>TH (sub r 0 2) (sub s 0 2))
theorem nG(z:D):xJ z z=true:=ib (fun r=>by exact Uw _) z
def Lw:List S:= [si,si]
def VG(p q:b8):Bool:=((gd p 0).int==(gd q 0).int)&&(((gd p 1).int==(gd q 1).int)&&(true))
theorem UE(p:b8):VG p p=true:=by simp[VG]
def YB:D->D->Bool:=ga (fun r s=>VG (sub r 0 2) (sub s 0 2))
theorem QB(z:D):YB z z=true:=ib (fun r=>by exact UE _) z
theorem Vr(c x:Bool):(bif c then ob x else ob false)=ob (c&&x):=by cases c <;> rfl
def inB(n a b:Int):Bool:=decide (n>=a)&&decide (n<=b)
theorem adZ(p q r:b8)(N:Nat):bf f8 (find []) N [0,1,2,6] Tryz.f154 (rb) [⟨ri,p⟩,⟨ri,q⟩,⟨ri,r⟩]=some (bo,bif decide ((gd p 0).int>=(gd q 0).int) then ob (decide ((gd p 0).int<=(gd r 0).int)) else ob false):=by kernel_rfl
def uN:Ent:=(154,e3 (ri) (ri) (ri) fun p q r=>(⟨rb,[.b (inB (gd p 0).int (gd q 0).int (gd r 0).int)]⟩,true))
theorem qi:ay f8 uN:=gW fun p q r h=>au (N:=0) (ks:= [0,1,2,6]) (al (fN)) Tryz.func154 fun _=>by rw[adZ];rw[Vr];rfl
theorem afl(p q r:b8)(N:Nat):bf f8 (find []) N [0,1,2,6] Tryz.f184 (rb) [⟨ri,p⟩,⟨ri,q⟩,⟨ri,r⟩]=some (bo,bif decide ((gd p 0).int>=(gd q 0).int) then ob (decide ((gd p 0).int<=(gd r 0).int)) else ob false):=by kernel_rfl
def pR:Ent:=(184,e3 (ri) (ri) (ri) fun p q r=>(⟨rb,[.b (inB (gd p 0).int (gd q 0).int (gd r 0).int)]⟩,true))
theorem nk:ay f8 pR:=gW fun p q r h=>au (N:=0) (ks:= [0,1,2,6]) (al (fN)) Tryz.func184 fun _=>by rw[afl];rw[Vr];rfl
theorem Vi(p:b8)(N:Nat):bf f8 (find [uN]) N [0,2] Tryz.f220 (rb) [⟨ri,p⟩]=some (bo,ob (inB (gd p 0).int (0) (1000000000))):=by kernel_rfl
def Og:Ent:=(220,e1 (ri) fun p=>(⟨rb,[.b (inB (gd p 0).int (0) (1000000000))]⟩,true))
theorem Ug:ay f8 Og:=cK fun p h=>au (N:=0) (ks:= [0,2]) (al (fC ⟨qi,fN⟩)) Tryz.func220 fun _=>by
 rw[Vi]
 skip
theorem QD(p:b8)(N:Nat):bf f8 (find [uN]) N [0,2] Tryz.f209 (rb) [⟨ri,p⟩]=some (bo,ob (inB (gd p 0).int (-1) (1000000000))):=by kernel_rfl
def xT:Ent:=(209,e1 (ri) fun p=>(⟨rb,[.b (inB (gd p 0).int (-1) (1000000000))]⟩,true))
theorem QZ:ay f8 xT:=cK fun p h=>au (N:=0) (ks:= [0,2]) (al (fC ⟨qi,fN⟩)) Tryz.func209 fun _=>by
 rw[QD]
 skip
theorem Zd(p:b8)(N:Nat):bf f8 (find [uN]) N [0,2] Tryz.f208 (rb) [⟨ri,p⟩]=some (bo,ob (inB (gd p 0).int (0) (999))):=by kernel_rfl
def ED:Ent:=(208,e1 (ri) fun p=>(⟨rb,[.b (inB (gd p 0).int (0) (999))]⟩,true))
theorem NT:ay f8 ED:=cK fun p h=>au (N:=0) (ks:= [0,2]) (al (fC ⟨qi,fN⟩)) Tryz.func208 fun _=>by
 rw[Zd]
 skip
theorem Tz(p:b8)(N:Nat):bf f8 (find [uN]) N [0,2] Tryz.f149 (rb) [⟨ri,p⟩]=some (bo,ob (inB (gd p 0).int (0) (3))):=by kernel_rfl
def Mk:Ent:=(149,e1 (ri) fun p=>(⟨rb,[.b (inB (gd p 0).int (0) (3))]⟩,true))
theorem Ur:ay f8 Mk:=cK fun p h=>au (N:=0) (ks:= [0,2]) (al (fC ⟨qi,fN⟩)) Tryz.func149 fun _=>by
 rw[Tz]
 skip
theorem UX(p:b8)(N:Nat):bf f8 (find [pR]) N [0,2] Tryz.f218 (rb) [⟨ri,p⟩]=some (bo,ob (inB (gd p 0).int (0) (1000000000))):=by kernel_rfl
def NN:Ent:=(218,e1 (ri) fun p=>(⟨rb,[.b (inB (gd p 0).int (0) (1000000000))]⟩,true))
theorem TD:ay f8 NN:=cK fun p h=>au (N:=0) (ks:= [0,2]) (al (fC ⟨nk,fN⟩)) Tryz.func218 fun _=>by
 rw[UX]
 skip
theorem XO(p:b8)(N:Nat):bf f8 (find [pR]) N [0,2] Tryz.f201 (rb) [⟨ri,p⟩]=some (bo,ob (inB (gd p 0).int (0) (999))):=by kernel_rfl
def zN:Ent:=(201,e1 (ri) fun p=>(⟨rb,[.b (inB (gd p 0).int (0) (999))]⟩,true))
theorem JB:ay f8 zN:=cK fun p h=>au (N:=0) (ks:= [0,2]) (al (fC ⟨nk,fN⟩)) Tryz.func201 fun _=>by
 rw[XO]
 skip
def ax(p:b8):Bool:=decide ((gd p 0).int>=0)&&(decide ((gd p 0).int<(gd p 1).int)&&decide ((gd p 1).int<=1000))
theorem Uq(p:b8)(N:Nat):bf f8 (find []) N [0,1,2] Tryz.f108 (rb) [⟨ag aI,p⟩]=some (bo,bif decide ((gd p 0).int>=0) then bif decide ((gd p 0).int<(gd p 1).int) then ob (decide ((gd p 1).int<=1000)) else ob false else ob false):=by kernel_rfl
def mJ:Ent:=(108,e1 (ag aI) fun p=>(⟨rb,[.b (ax p)]⟩,true))
theorem mv:ay f8 mJ:=cK fun p h=>au (N:=0) (ks:= [0,1,2]) (al (fN)) Tryz.func108 fun _=>by rw[Uq];simp only[Vr];rfl
theorem Uj(p:b8)(N:Nat):bf f8 (find []) N [0,1,2] Tryz.f94 (rb) [⟨ag aI,p⟩]=some (bo,bif decide ((gd p 0).int>=0) then bif decide ((gd p 0).int<(gd p 1).int) then ob (decide ((gd p 1).int<=1000)) else ob false else ob false):=by kernel_rfl
def fD:Ent:=(94,e1 (ag aI) fun p=>(⟨rb,[.b (ax p)]⟩,true))
theorem eA:ay f8 fD:=cK fun p h=>au (N:=0) (ks:= [0,1,2]) (al (fN)) Tryz.func94 fun _=>by rw[Uj];simp only[Vr];rfl
def lW(z:D)(k:Nat):Bool:=inB (gd (z.rows.getD k []) 0).int 0 999&&(inB (gd (z.rows.getD k []) 1).int (-1) 1000000000&&(k==0 || !decide ((gd (z.rows.getD (k - 1) []) 0).int>=(gd (z.rows.getD k []) 0).int)))
def aL(z:D):Bool:=decide ((z.rows.length:Int)<=60)&&(List.range z.rows.length).all (lW z)
theorem acC{k:Nat}(h:k≠0)(y:k<=9223372036854775807):w64 ((k:Int) - 1)=((k - 1:Nat):Int):=by rw[bD (by omega) (by omega)];omega
def swL(N:Nat)(p:b8):b8->Out:=bb f8 (find [pR,zN]) N [0,2,3,6,10,46] Tryz.f93 rb [⟨sd (.sl 70),p⟩] 0
theorem akO(p:b8)(N:Nat)(z J y:D)(k:Int):swL N p [z,J,y,.i k] =
 bif decide (k<z.rows.length) then nd (ah k z.rows.length) (bif !(inB (gd (z.rows.getD k.toNat []) 0).int 0 999) then ob false else nd (ah k z.rows.length) (bif !(inB (gd (z.rows.getD k.toNat []) 1).int (-1) 1000000000) then ob false else
  bif decide (k > 0) then nd (ah (w64 (k - 1)) z.rows.length) (nd (ah k z.rows.length) (bif decide ((gd (z.rows.getD (w64 (k - 1)).toNat []) 0).int>=(gd (z.rows.getD k.toNat []) 0).int) then ob false else nx [z,J,y,.i (w64 (k+1))])) else nx [z,J,y,.i (w64 (k+1))])) else ex 0 [z,J,y,.i k]:=by kernel_rfl
theorem amu(p:b8)(N:Nat):bf f8 (find [pR,zN]) N [0,2,3,6,10,46] Tryz.f93 rb [⟨sd (.sl 70),p⟩]=some (bo,bif decide (((gd p 0).rows.length:Int) > 60) then ob false else
  (let o:=aX (swL N p) N [gd p 0,D0,.b (decide (((gd p 0).rows.length:Int) > 60)),.i 0]
  nd o.isSome (bif o.code==1 then some (1,o.pay) else nd (o.code==2) (ob true)))):=by kernel_rfl
def iwL(N:Nat)(p:b8):b8->Out:=bb f8 (find [ED,xT]) N [0,2,3,4,5,6,7,8,36] Tryz.f109 rb [⟨sd (.sl 70),p⟩] 0
theorem akK(p:b8)(N:Nat)(z J y:D)(n k:Int):iwL N p [z,J,y,.i n,.i k] =
  bif decide (k<n) then nd (ah k y.rows.length)
   (bif !(inB (gd (y.rows.getD k.toNat []) 0).int 0 999) then ob false else bif !(inB (gd (y.rows.getD k.toNat []) 1).int (-1) 1000000000) then ob false else
   bif decide (k > 0) then nd (ah (w64 (k - 1)) z.rows.length) (bif decide ((gd (z.rows.getD (w64 (k - 1)).toNat []) 0).int>=(gd (y.rows.getD k.toNat []) 0).int) then ob false else nx [z,J,y,.i n,.i (w64 (k+1))]) else nx [z,J,y,.i n,.i (w64 (k+1))])
  else ex 0 [z,J,y,.i n,.i k]:=by kernel_rfl
theorem amD(p:b8)(N:Nat):bf f8 (find [ED,xT]) N [0,2,3,4,5,6,7,8,36] Tryz.f109 rb [⟨sd (.sl 70),p⟩]=some (bo,
  (let o:=aX (iwL N p) N [gd p 0,D0,gd p 0,.i (gd p 0).rows.length,.i 0]
  nd o.isSome (bif o.code==1 then some (1,o.pay) else nd (o.code==2) (ob (decide (((gd o.pay 0).rows.length:Int)<=60)))))):=by kernel_rfl
def nX:Ent:=(93,e1 (sd (.sl 70)) fun p=>(⟨rb,[.b (aL (gd p 0))]⟩,true))
def oC:Ent:=(109,e1 (sd (.sl 70)) fun p=>(⟨rb,[.b (aL (gd p 0))]⟩,true))
theorem nL:ay f8 nX:=cK fun p _=>au (N:=(gd p 0).rows.length+1) (ks:= [0,2,3,6,10,46]) (al (fC ⟨nk,fC ⟨JB,fN⟩⟩)) Tryz.func93 fun hw=>by
 have hl:=fi (hw ⟨sd (.sl 70),p⟩ (by simp));rw[amu];by_cases y:((gd p 0).rows.length:Int)<=60
 ·have e:=Ex (L:=swL ((gd p 0).rows.length+1) p) (fun k => [gd p 0,D0,.b (decide (((gd p 0).rows.length:Int) > 60)),.i (k:Int)]) (gd p 0).rows.length (lW (gd p 0)) [.b false] [gd p 0,D0,.b (decide (((gd p 0).rows.length:Int) > 60)),.i (gd p 0).rows.length] 0 (fun k hk=>?_) ?_ (K5 _)
  ·simp only[j9] at e;rw[e,show decide (((gd p 0).rows.length:Int) > 60)=false from I1 (by omega)];simp only[aL,y,decide_true,y7];cases (List.range (gd p 0).rows.length).all (lW (gd p 0)) <;> rfl
  ·show swL _ p [gd p 0,D0,_,.i (k:Int)]=_;rw[akO,B3 (show (k:Int)<(gd p 0).rows.length from by omega),bK hk];simp only[g6,nd,g8,lW];cases inB (gd ((gd p 0).rows.getD k []) 0).int 0 999 <;> simp only[n4,A4,g6,f9,A9,y7] <;> first | rfl | skip
   cases inB (gd ((gd p 0).rows.getD k []) 1).int (-1) 1000000000 <;> simp only[n4,A4,g6,f9,A9,y7] <;> first | rfl | skip
   rw[bD (x:=(k:Int)+1) (by omega) (by omega)];by_cases J:k=0
   ·subst J;rfl
   ·rw[B3 (show (k:Int) > 0 from by omega),acC J (by omega),bK (show k - 1<(gd p 0).rows.length from by omega),show (k==0)=false from by simpa using J];simp only[g6,g8,G7];cases decide ((gd ((gd p 0).rows.getD (k - 1) []) 0).int>=(gd ((gd p 0).rows.getD k []) 0).int) <;> rfl
  ·show swL _ p [gd p 0,D0,_,.i ((gd p 0).rows.length:Int)]=_;rw[akO,I1 (show ¬((gd p 0).rows.length:Int)<(gd p 0).rows.length from by omega)];rfl
 ·rw[B3 (show ((gd p 0).rows.length:Int) > 60 from by omega)];simp only[aL,y,decide_false,A9];rfl
theorem nu:ay f8 oC:=cK fun p _=>au (N:=(gd p 0).rows.length+1) (ks:= [0,2,3,4,5,6,7,8,36]) (al (fC ⟨NT,fC ⟨QZ,fN⟩⟩)) Tryz.func109 fun hw=>by
 have hl:=fi (hw ⟨sd (.sl 70),p⟩ (by simp));have e:=Ex (L:=iwL ((gd p 0).rows.length+1) p) (fun k => [gd p 0,D0,gd p 0,.i (gd p 0).rows.length,.i (k:Int)]) (gd p 0).rows.length (lW (gd p 0)) [.b false] [gd p 0,D0,gd p 0,.i (gd p 0).rows.length,.i (gd p 0).rows.length] 0 (fun k hk=>?_) ?_ (K5 _)
 ·simp only[j9] at e;rw[amD,e];cases J:(List.range (gd p 0).rows.length).all (lW (gd p 0))
  ·simp only[aL,J,E4];rfl
  ·simp only[aL,J,E6];rfl
 ·show iwL _ p [gd p 0,D0,gd p 0,.i _,.i (k:Int)]=_;rw[akK,B3 (show (k:Int)<(gd p 0).rows.length from by omega),bK hk];simp only[g6,nd,g8,lW];cases inB (gd ((gd p 0).rows.getD k []) 0).int 0 999 <;> simp only[n4,A4,g6,f9,A9,y7] <;> first | rfl | skip
  cases inB (gd ((gd p 0).rows.getD k []) 1).int (-1) 1000000000 <;> simp only[n4,A4,g6,f9,A9,y7] <;> first | rfl | skip
  rw[bD (x:=(k:Int)+1) (by omega) (by omega)];by_cases y:k=0
  ·subst y;rfl
  ·rw[B3 (show (k:Int) > 0 from by omega),acC y (by omega),bK (show k - 1<(gd p 0).rows.length from by omega),show (k==0)=false from by simpa using y];simp only[g6,g8,G7];cases decide ((gd ((gd p 0).rows.getD (k - 1) []) 0).int>=(gd ((gd p 0).rows.getD k []) 0).int) <;> rfl
 ·show iwL _ p [gd p 0,D0,gd p 0,.i _,.i ((gd p 0).rows.length:Int)]=_;rw[akK,I1 (show ¬((gd p 0).rows.length:Int)<(gd p 0).rows.length from by omega)];rfl
def ixF(C:Nat->Bool):Nat->Nat->Int
 | _,0 => -1
 | k,m+1=>bif C k then k else ixF C (k+1) m
theorem kq(C:Nat->Bool):∀(m k:Nat),decide (ixF C k m>=0)=(List.range m).any fun j=>C (k+j)
 | 0,k=>rfl
 | m+1,k=>by
  rw[ixF,M2,List.any_cons,List.any_map];cases hc:C k with
  | true=>simp[hc]
  | false =>
   simp only[f9,F8,hc,G7];rw[kq C m (k+1)]
   congr 1
   funext j;simp only[Function.comp]
   congr 1;omega
theorem iq{L:b8->Out}(st:Nat->b8)(n:Nat)(C:Nat->Bool)(fin:b8)(h1:∀k,k<n->L (st k)=some (bif C k then (1,[.i (k:Int)]) else (0,st (k+1))))(M:L (st n)=some (2,fin)) :
  ∀(m k N:Nat),k+m=n->m<N->aX L N (st k)=some (bif decide (ixF C k m>=0) then (1,[.i (ixF C k m)]) else (2,fin)):=by
 intro m
 induction m with
 | zero =>
  intro k N hk O;obtain⟨N,rfl⟩:∃y,N=y+1:=⟨N - 1,by omega⟩;obtain rfl:k=n:=by omega
  rw[aX,M];rfl
 | succ m J =>
  intro k N hk O;obtain⟨N,rfl⟩:∃y,N=y+1:=⟨N - 1,by omega⟩;rw[aX,h1 k (by omega),ixF];cases hc:C k with
  | true=>simp only[g6];rw[B3 (show (k:Int)>=0 from by omega)];rfl
  | false=>simp only[f9];exact J (k+1) N (by omega) (by omega)
def eL(C:b8->Bool)(z:D):Bool:=(List.range z.rows.length).any fun k=>C (z.rows.getD k [])
theorem gT(C:Nat->Bool):∀(m k:Nat),decide (ixF C k m>=0)=false->ixF C k m = -1
 | 0,k,_=>rfl
 | m+1,k,h=>by
  rw[ixF] at h ⊢;cases hc:C k with
  | true=>rw[hc,g6,B3 (show (k:Int)>=0 from by omega)] at h;cases h
  | false=>rw[hc,f9] at h;rw[f9];exact gT C m (k+1) h
def ajU(z:D):Bool:=decide ((z.rows.length:Int)<=16) && !eL (fun r => !ax (sub r 0 2)) z
def aC(z:D)(x:Int):Bool:=eL (fun r=>x==(gd r 0).int) z
def cnt(C:Nat->Bool):Nat->Nat->Nat
 | _,0=>0
 | k,m+1=>(bif C k then 1 else 0)+cnt C (k+1) m
theorem aaO(C:Nat->Bool):∀m k,cnt C k m<=m
 | 0,k=>i8 _
 | m+1,k=>by have:=aaO C m (k+1);rw[cnt];cases C k <;> simp only[g6,f9] <;> omega
theorem akh{n:Nat}{C:Nat->Bool}:(!(List.range n).all fun k => !C k)=(List.range n).any C:=by simp[List.all_eq_not_any_not]
def uI(N:Nat)(p q:b8):b8->Out:=bb f8 (find []) N [0,1,4,5,9,17] Tryz.f95 rb [⟨sd (.sl 3),p⟩,⟨ri,q⟩] 0
theorem Jc(p q:b8)(N:Nat)(z x y:D)(k:Int):uI N p q [z,x,y,.i k]=bif decide (k<z.rows.length) then nd (ah k z.rows.length) (bif ((gd (z.rows.getD k.toNat []) 0).int==x.int) then ob true else nx [z,x,y,.i (w64 (k+1))]) else ex 0 [z,x,y,.i k]:=by kernel_rfl
theorem WO(p q:b8)(N:Nat):bf f8 (find []) N [0,1,4,5,9,17] Tryz.f95 rb [⟨sd (.sl 3),p⟩,⟨ri,q⟩]=some (bo,(let o:=aX (uI N p q) N [gd p 0,gd q 0,D0,.i 0]
  nd o.isSome (bif o.code==1 then some (1,o.pay) else nd (o.code==2) (ob false)))):=by kernel_rfl
def nq:Ent:=(95,e2 (sd (.sl 3)) ri fun p q=>(⟨rb,[.b (aC (gd p 0) (gd q 0).int)]⟩,true))
theorem kY:ay f8 nq:=bm fun p q _=>au (N:=(gd p 0).rows.length+1) (ks:= [0,1,4,5,9,17]) (al (fN)) Tryz.func95 fun hw=>by
 have hl:=fi (hw ⟨sd (.sl 3),p⟩ (by simp));have e:=Ex (L:=uI ((gd p 0).rows.length+1) p q) (fun k => [gd p 0,gd q 0,D0,.i (k:Int)]) (gd p 0).rows.length (fun k => !((gd q 0).int==(gd ((gd p 0).rows.getD k []) 0).int)) [.b true] [gd p 0,gd q 0,D0,.i (gd p 0).rows.length] 0 (fun k hk=>?_) ?_ (K5 _)
 ·simp only[j9] at e;rw[WO,e];have y:aC (gd p 0) (gd q 0).int = !(List.range (gd p 0).rows.length).all fun k => !((gd q 0).int==(gd ((gd p 0).rows.getD k []) 0).int):=akh.symm
  rw[y];cases (List.range (gd p 0).rows.length).all fun k => !((gd q 0).int==(gd ((gd p 0).rows.getD k []) 0).int) <;> rfl
 ·show uI _ p q [gd p 0,gd q 0,D0,.i (k:Int)]=_;rw[Jc,B3 (show (k:Int)<(gd p 0).rows.length from by omega),bK hk,bD (by omega) (by omega),g8,Bool.beq_comm];cases J:((gd q 0).int==(gd ((gd p 0).rows.getD k []) 0).int) <;> rfl
 ·show uI _ p q [gd p 0,gd q 0,D0,.i ((gd p 0).rows.length:Int)]=_;rw[Jc,I1 (show ¬((gd p 0).rows.length:Int)<(gd p 0).rows.length from by omega)];rfl
def ahF(N:Nat)(p q:b8):b8->Out:=bb f8 (find []) N [0,1,4,5,7,8,9,16] Tryz.f138 ri [⟨sd (.sl 3),p⟩,⟨ri,q⟩] 0
theorem agq(p q:b8)(N:Nat)(z c x:D)(n k:Int):ahF N p q [z,c,x,.i n,.i k]=bif decide (k<n) then nd (ah k z.rows.length) (bif (c.int==(gd (z.rows.getD k.toNat []) 0).int) then oi k else nx [z,c,x,.i n,.i (w64 (k+1))]) else ex 0 [z,c,x,.i n,.i k]:=by kernel_rfl
theorem alS(p q:b8)(N:Nat):bf f8 (find []) N [0,1,4,5,7,8,9,16] Tryz.f138 ri [⟨sd (.sl 3),p⟩,⟨ri,q⟩]=some (bo,(let o:=aX (ahF N p q) N [gd p 0,gd q 0,.i 0,.i (gd p 0).rows.length,.i 0]
  nd o.isSome (bif o.code==1 then some (1,o.pay) else nd (o.code==2) (oi (-1))))):=by kernel_rfl
def alC:Ent:=(138,e2 (sd (.sl 3)) ri fun p q=>(⟨ri,[.i (ixF (fun k=>(gd q 0).int==(gd ((gd p 0).rows.getD k []) 0).int) 0 (gd p 0).rows.length)]⟩,true))
theorem aiz:ay f8 alC:=bm fun p q _=>au (N:=(gd p 0).rows.length+1) (ks:= [0,1,4,5,7,8,9,16]) (al (fN)) Tryz.func138 fun hw=>by
 have hl:=fi (hw ⟨sd (.sl 3),p⟩ (by simp));have e:=iq (L:=ahF ((gd p 0).rows.length+1) p q) (fun k => [gd p 0,gd q 0,.i 0,.i (gd p 0).rows.length,.i (k:Int)]) (gd p 0).rows.length (fun k=>(gd q 0).int==(gd ((gd p 0).rows.getD k []) 0).int) [gd p 0,gd q 0,.i 0,.i (gd p 0).rows.length,.i (gd p 0).rows.length] (fun k hk=>?_) ?_ (gd p 0).rows.length 0 ((gd p 0).rows.length+1) (by omega) (by omega)
 ·simp only[j9] at e;rw[alS,e];cases y:decide (ixF (fun k=>(gd q 0).int==(gd ((gd p 0).rows.getD k []) 0).int) 0 (gd p 0).rows.length>=0)
  ·rw[gT _ _ _ y];rfl
  ·rfl
 ·show ahF _ p q [gd p 0,gd q 0,.i 0,.i _,.i (k:Int)]=_;rw[agq,B3 (show (k:Int)<(gd p 0).rows.length from by omega),bK hk,bD (by omega) (by omega),g8];cases J:((gd q 0).int==(gd ((gd p 0).rows.getD k []) 0).int) <;> rfl
 ·show ahF _ p q [gd p 0,gd q 0,.i 0,.i _,.i ((gd p 0).rows.length:Int)]=_;rw[agq,I1 (show ¬((gd p 0).rows.length:Int)<(gd p 0).rows.length from by omega)];rfl
theorem amb(p q:b8)(N:Nat):bf f8 (find [alC]) N [0,1,4] Tryz.f136 rb [⟨sd (.sl 3),p⟩,⟨ri,q⟩]=some (bo,ob (decide (ixF (fun k=>(gd q 0).int==(gd ((gd p 0).rows.getD k []) 0).int) 0 (gd p 0).rows.length>=0))):=by kernel_rfl
def abb:Ent:=(136,e2 (sd (.sl 3)) ri fun p q=>(⟨rb,[.b (aC (gd p 0) (gd q 0).int)]⟩,true))
theorem He:ay f8 abb:=bm fun p q _=>au (N:=0) (ks:= [0,1,4]) (al (fC ⟨aiz,fN⟩)) Tryz.func136 fun _=>by rw[amb,kq];simp only[m0];rfl
def ajV(z:D)(k:Nat):Bool:=
 inB (gd (z.rows.getD k []) 0).int 0 3&&((k==0 || !decide ((gd (z.rows.getD (k - 1) []) 0).int>=(gd (z.rows.getD k []) 0).int))&&(ajU (gd (z.rows.getD k []) 1)&&(aL (gd (z.rows.getD k []) 2)&&inB (gd (z.rows.getD k []) 3).int 0 2)))
def YH(z:D):Bool:=decide ((z.rows.length:Int)<=4)&&(List.range z.rows.length).all (ajV z)
theorem er(c x y:Bool):(bif c then ob x else ob y)=ob (bif c then x else y):=by cases c <;> rfl
theorem aA(n:Int):(D.i n).int=n:=rfl
theorem kK(n:Bool):(D.b n).bool=n:=rfl
theorem ye(n:List UInt8):(D.s n).str=n:=rfl
theorem bd(n:List b8):(D.l n).rows=n:=rfl
theorem aG{k n:Nat}(h:k<n)(y:n<=9223372036854775807):w64 ((k:Int)+1)=((k+1:Nat):Int):=by rw[bD (by omega) (by omega)];omega
theorem akQ{P:Program}{xs:List Ce}{p:b8}{e:TypeId}(h:WT P ⟨.one (.agg xs),p⟩){j:Nat}(y:xs[j]?=some (.d (.sl e))):(gd p j).rows.length<=9223372036854775807:=by
 have h:∀(j:Nat) c,xs[j]?=some c->WC P c (gd p j):=h;have h:WD P (.sl e) (gd p j):=h j _ y;cases h with
 | sl _ _ row _ h _=>exact h
theorem dE{L:b8->Out}(st:Nat->b8)(n:Nat)(C:Nat->Bool)(v:b8)(j:Nat)(h1:∀k,k<n->L (st k)=some (bif C k then (0,st (k+1)) else (1,v)))(y:L (st n)=some (j+2,st n)){N:Nat}(J:n<N) :
  aX L N (st 0)=some (bif (List.range n).all C then (j+2,st n) else (1,v)):=Ex st n C v (st n) j h1 y J
def ltI(x y:Int):Bool:=decide (x<y)
def leI(x y:Int):Bool:=decide (x<=y)
def eqI(x y:Int):Bool:=decide (x=y)
theorem lp{x y:Int}(h:x<y):ltI x y=true:=B3 h
theorem iI{x y:Int}(h:y<=x):ltI x y=false:=I1 (by omega)
theorem bi{x y:Int}(h:x<=y):leI x y=true:=B3 h
theorem FX{x y:Int}(h:y<x):leI x y=false:=I1 (by omega)
theorem gy{k n:Nat}(h:k<n):ltI (k:Int) (n:Int)=true:=B3 (by omega)
theorem aaH{n:Nat}:ltI (n:Int) (n:Int)=false:=I1 (by omega)
theorem akS{n:Nat}:leI 0 (n:Int)=true:=B3 (by omega)
theorem ajs{k n:Nat}(h:k<=n):leI (k:Int) (n:Int)=true:=B3 (by omega)
theorem di{k n:Nat}(h:k<n){a b:Out}:(bif ltI (k:Int) (n:Int) then a else b)=a:=by rw[gy h];rfl
theorem ca{n:Nat}{a b:Out}:(bif ltI (n:Int) (n:Int) then a else b)=b:=by rw[aaH];rfl
theorem aU{a:Out}:nd true a=a:=rfl
theorem bu{k n:Nat}(h:k<n){a:Out}:nd (ah (k:Int) n) a=a:=by rw[bK h];rfl
theorem ajo{k n:Nat}(h:k<=n){a:Out}:nd (leI 0 0&&leI 0 (k:Int)&&leI (k:Int) (n:Int)) a=a:=by rw[akS,ajs h];rfl
theorem iS{a b:Int}:(a != b) = !(a==b):=rfl
theorem CZ:ltI 0 ((0:Nat):Int)=false:=rfl
theorem BE{k:Nat}:ltI 0 ((k+1:Nat):Int)=true:=lp (by omega)
theorem qU{k:Nat}(h:k+1<=9223372036854775807):w64 (((k+1:Nat):Int) - 1)=(k:Int):=by rw[bD (by omega) (by omega)];omega
def bl(l:List b8):Bool:=decide (l.length<=4294967296)
theorem ci{l:List b8}(h:l.length<=4294967296):bl l=true:=B3 h
theorem ez(c:Bool)(x y:Int):(bif c then oi x else oi y)=oi (bif c then x else y):=by cases c <;> rfl
theorem eo(c:Bool)(x y:List UInt8):(bif c then (some (1,[.s x]):Out) else some (1,[.s y]))=some (1,[.s (bif c then x else y)]):=by cases c <;> rfl
theorem bn(a:List b8):em a a=true:=by unfold em;exact @B3 _ (Classical.propDecidable _) rfl
def e4(y J O M:Sh)(F:b8->b8->b8->b8->T × Bool):List T->Option (T × Bool)
 | [v0,v1,v2,v3]=>bif v0.sh==y&&v1.sh==J&&v2.sh==O&&v3.sh==M then some (F v0.p v1.p v2.p v3.p) else none
 | _=>none
theorem Bc{P:Program}{f:FuncId}{V J U O:Sh}{F:b8->b8->b8->b8->T × Bool}(h:∀p0 Z p2 Y,(F p0 Z p2 Y).2=true->aJ P f [⟨V,p0⟩,⟨J,Z⟩,⟨U,p2⟩,⟨O,Y⟩] (F p0 Z p2 Y).1):ay P (f,e4 V J U O F):=by
 intro args r W;have y:e4 V J U O F args=some (r,true):=W;clear W;unfold e4 at y
 split at y
 ·rename_i v0 v1 v2 v3;cases M:(v0.sh==V&&v1.sh==J&&v2.sh==U&&v3.sh==O) with
  | false=>rw[M] at y;cases y
  | true =>rw[M,g6,b7] at y;simp only[a9,u7] at M;obtain⟨a5,a1⟩:=v0;obtain⟨a6,a3⟩:=v1;obtain⟨a7,a0⟩:=v2;obtain⟨a4,a2⟩:=v3;obtain⟨⟨⟨q0,q1⟩,q2⟩,q3⟩:=M;simp only at q0;subst q0;simp only at q1;subst q1;simp only at q2;subst q2;simp only at q3;subst q3;have hh:=h a1 a3 a0 a2;rw[y] at hh;exact hh rfl
 ·cases y
def e5(y J U M O:Sh)(F:b8->b8->b8->b8->b8->T × Bool):List T->Option (T × Bool)
 | [v0,v1,v2,v3,v4]=>bif v0.sh==y&&v1.sh==J&&v2.sh==U&&v3.sh==M&&v4.sh==O then some (F v0.p v1.p v2.p v3.p v4.p) else none
 | _=>none
theorem abq{P:Program}{f:FuncId}{U V O W J:Sh}{F:b8->b8->b8->b8->b8->T × Bool}(h:∀p0 p1 p2 Z p4,(F p0 p1 p2 Z p4).2=true->aJ P f [⟨U,p0⟩,⟨V,p1⟩,⟨O,p2⟩,⟨W,Z⟩,⟨J,p4⟩] (F p0 p1 p2 Z p4).1):ay P (f,e5 U V O W J F):=by
 intro args r Y;have y:e5 U V O W J F args=some (r,true):=Y;clear Y;unfold e5 at y
 split at y
 ·rename_i v0 v1 v2 v3 v4;cases M:(v0.sh==U&&v1.sh==V&&v2.sh==O&&v3.sh==W&&v4.sh==J) with
  | false=>rw[M] at y;cases y
  | true =>rw[M,g6,b7] at y;simp only[a9,u7] at M;obtain⟨a8,a0⟩:=v0;obtain⟨a6,a1⟩:=v1;obtain⟨b0,a2⟩:=v2;obtain⟨a7,a4⟩:=v3;obtain⟨a5,a3⟩:=v4;obtain⟨⟨⟨⟨q0,q1⟩,q2⟩,q3⟩,q4⟩:=M;simp only at q0;subst q0;simp only at q1;subst q1;simp only at q2;subst q2;simp only at q3;subst q3;simp only at q4;subst q4;have hh:=h a0 a1 a2 a4 a3;rw[y] at hh;exact hh rfl
 ·cases y
theorem VV(C:Nat->Bool)(k:Nat):cnt C k 0=0:=rfl
theorem jm(C:Nat->Bool):∀m k,cnt C k (m+1)=cnt C k m+(bif C (k+m) then 1 else 0)
 | 0,k=>by simp[cnt]
 | m+1,k=>by rw[cnt,jm C m (k+1),cnt,show k+1+m=k+(m+1) from by omega];omega
theorem adG{C:b8->Bool}{z:D}{k:Nat}(h:k<=z.rows.length):eL C (.l (z.rows.take k))=(List.range k).any fun j=>C (z.rows.getD j []):=by
 unfold eL;rw[bd,w5,Nat.min_eq_left h];rw[y0];simp only[D3,m7];constructor
 ·rintro⟨j,y,h⟩;refine⟨j,y,?_⟩
  rwa [g4,I9 y,<- g4] at h
 ·rintro⟨j,y,h⟩;refine⟨j,y,?_⟩
  rwa [g4,I9 y,<- g4]
def ndN:Nat->Bool->Out->Out
 | 0,_,x=>x
 | n+1,c,x=>nd c (ndN n c x)
theorem lB{x:Out}:∀n,ndN n true x=x
 | 0=>rfl
 | n+1=>by rw[ndN,lB n];rfl
set_option maxRecDepth 100000
set_option maxHeartbeats 4000000
open Go.Lib
def lE(k:Nat):List b8->List Value
 | [] => []
 | r::rs=>(List.range k).map (fun j=>.int .i64 (gd r j).int)++lE k rs
theorem fy(k:Nat):∀rows,(lE k rows).length=rows.length*k
 | []=>by simp[lE]
 | r::rs=>by simp only[lE,i6,r9,I4,fy k rs,D8,F6];omega
theorem Db(k:Nat):∀(rows:List b8) (i j:Nat),i<rows.length->j<k->(lE k rows)[i*k+j]?=some (.int .i64 (gd (rows.getD i []) j).int)
 | [],i,j,h,_=>by simp at h
 | r::rs,0,j,_,hj=>by rw[lE,K4,m0,z9 (by simpa using hj)];simp[hj]
 | r::rs,i+1,j,h,hj=>by have:=Db k rs i j (by simpa using h) hj;rw[lE,C3 (by simp only[r9,I4,F6];omega)];simp only[r9,I4];rw[show (i+1)*k+j - k=i*k+j from by rw[F6];omega,this];rfl
theorem OM{k:Nat}{F:Nat->Value->Prop}{rows:List b8}(h:∀i j,i<rows.length->j<k->F (i*k+j) (.int .i64 (gd (rows.getD i []) j).int)){m:Nat}{v:Value}(hm:(lE k rows)[m]?=some v):F m v:=by
 have y:=(g7.1 hm).1;rw[fy] at y;have hk:0<k:=by
  rcases E0 k with e | e
  ·subst e;simp at y
  ·exact e
 have hi:m / k<rows.length:=by rw[M7 hk];exact y
 have J:=Nat.mod_lt m hk;have e:m / k*k+m % k=m:=by rw[L8];exact Nat.div_add_mod m k
 have h1:=Db k rows (m / k) (m % k) hi J;have M:=h (m / k) (m % k) hi J;rw[e] at h1 M;rw[hm] at h1;injection h1 with h1
 rw[h1];exact M
theorem Cy(k:Nat)(rows:List b8):∀v∈lE k rows,v.oneCell'=true:=fun v hv=>by obtain⟨m,hm⟩:=F9 hv;exact OM (F:=fun _ v=>v.oneCell'=true) (fun i j _ _=>rfl) hm
theorem Hy{P:Program}{w:World}{prot:Nat->Nat}{x:D}{v:Value}{e:TypeId}{k:Nat}(O:br P e=some (List.replicate k (.int .i64)))(hk:0<k)(h:VD P w prot (.sl e) x v):∃A c,v=.slice A x.rows.length c/\x.rows.length<=c/\c<=9223372036854775807 /\
  (0<x.rows.length->∃b o,A=some ⟨b,o,none⟩)/\∀b o,A=some ⟨b,o,none⟩->∀m v,(lE k x.rows)[m]?=some v->w.cell? ⟨b,o+m,none⟩=some v/\o+m<prot b:=by
 cases h with
 | sl e d A c row u J h1 W M U =>
  rw[O] at J;injection J with J
  subst J;simp only[List.length_replicate] at M U;refine⟨A,c,rfl,h1,W,fun Y=>?_,fun b o y m v hm=>?_⟩
  ·obtain⟨b,o,y,_⟩:=M 0 0 Y hk;exact⟨b,o,y⟩
  ·subst y;refine OM (F:=fun m v=>w.cell? ⟨b,o+m,none⟩=some v/\o+m<prot b) (fun i j hi V=>?_) hm;obtain⟨b',o',y,hc,Z⟩:=M i j hi V;injection y with y
   injection y with e1 e2 _
   subst e1;subst e2;have hv:=U i j (.int .i64) hi (by simp[V]);generalize u i j=z at *;cases hv;exact⟨hc,Z⟩
theorem mM{P:Program}{prot:Nat->Nat}{w w':World}{x:D}{v:Value}{e:TypeId}{k:Nat}(M:br P e=some (List.replicate k (.int .i64)))(y:∀b,w.heap.size<=b->prot b=0)(O:Below w.heap.size w w')(Z:w'.ownsRow w.heap.size e k v x.rows.length (lE k x.rows)) :
  ∃g',Res P prot w w' ⟨.one (.c (.own (0,0) true e)),[x]⟩ v g':=by
 obtain⟨hl,⟨rfl,Y⟩ | ⟨blk,cap,cur,rfl,hblk,hh,hcap,hmax,hsz,htk⟩⟩:=Z
 ·exact⟨g0 0 prot,O,⟨_,M,.inl ⟨v7 Y,rfl,none,rfl⟩⟩,fun _ _=>rfl,fun b J=>⟨y b (m8 O.size J),rfl⟩⟩
 ·refine⟨⟨prot,fun b=>if b=blk then some (.inr (0,0)) else none,fun _=>0,fun _=>blk,fun _=>x.rows.length,fun _=>k,fun _=>e,fun _ => [],fun _=>0,fun _=>False⟩,O,⟨_,M,.inr ⟨cap,cur,e,rfl,hcap,⟨by unfold maxLen at hmax;omega,rfl,rfl⟩,hblk,m6 rfl,hh,by simpa using hsz,rfl,by simp,?_,?_⟩⟩,fun _ _=>rfl,fun b J=>⟨y b (m8 O.size J),?_⟩⟩
  ·show prot blk=0;exact y blk hblk
  ·intro i j s hi hs;have hi:i<x.rows.length:=hi;obtain⟨U,rfl⟩:j<k/\S.int .i64=s:=by obtain⟨U,W⟩:=g7.1 hs;exact⟨by simpa using U,by simpa using W⟩
   have q:=Db k x.rows i j hi U;have V:i*k+j<x.rows.length*k:=by have:=(g7.1 q).1;rw[fy] at this;exact this
   rw[<- htk,u9,m6 V] at q;exact⟨.int .i64 (gd (x.rows.getD i []) j).int,by simpa using q,.of_vd (.int .i64 _) (.inr rfl)⟩
  ·have:=aP hh;exact j7 (by omega)
theorem Cq:br f8 41=some (List.replicate 2 (.int .i64)):=by kernel_rfl
abbrev RJ:Value:=(.agg #[.int .i64 0,.int .i64 0])
theorem WM:(Tryz.prog.info? 41).map (fun i=>(i.zero,i.size,i.bytes))=some (some RJ,2,16):=by kernel_rfl
theorem Vp(a:Addr)(n c:Nat)(y:List Value)(w:World)(hl:y.length=n*2)(hn:n<=2000000)(hc:∀j u,y[j]?=some u->w.cell? (a.add j)=some u)(h1:∀u∈y,u.oneCell'=true) :
  Calls f8 179 #[.slice (some a) n c] w fun e w'=>∃J,e=.returned J/\w'.ownsRow w.heap.size 41 2 J n y/\Below w.heap.size w w':=by
 obtain⟨i0,Z,W,Y,a0⟩:=info_parts WM;have a1:Tryz.prog.follows .mixedOrders=true:=by kernel_rfl
 have a3:∀(w:World) (a:Option Addr) (n c O V:Nat),(binOp .eql 32 (.slice a n c) (.slice none O V)).run f8 w=.ok (.bool a.isNone) w:=fun w a n c O V=>Lib.run_eql_slice_nil w _ _ a n c O V Tryz.underlying32
 have A:Aside (∀j u,y[j]?=some u->w.cell? (a.add j)=some u):=hc;clear hc;go_enter Tryz.func179,Tryz.ntmps179
 go_wp2_with (at_builtin;refine wpList_append_own _ rfl _ _ 32 rfl w.heap.size 41 i0 RJ 2 16 Tryz.underlying32 Z W Y a0 rfl (by decide) _ _ _ rfl (L2 w #[] 0 (i8 _) (n5 _) (by simp)) a n c y rfl ?qc1 ?qc2 ?qc3 ?qc4 ?qc5 ?qc6 ?_)
 case qc1=>exact hl
 case qc2 =>intro j u hj;exact Lib.cell?_alloc_some _ (A.out j u hj)
 case qc3=>exact h1
 case qc4=>rw[m0];unfold maxLen;omega
 case qc5=>rw[m0];omega
 case qc6=>simp
 intro J w1 U M a2;go_wp2
 go_ret
 refine⟨J,rfl,by simpa using U,?_⟩;exact ((Below.refl _ w).alloc (i8 _) _).grown M (by simp) (by intro k hk;simp[Value.ownBlock] at hk;omega)
theorem Ro(n c:Nat)(w:World) :
  Calls f8 179 #[.slice none n c] w fun e w'=>e=.returned (.slice none 0 0)/\w'=w:=by
 have M:Tryz.prog.follows .mixedOrders=true:=by kernel_rfl
 have O:∀(w:World) (a:Option Addr) (n c y J:Nat),(binOp .eql 32 (.slice a n c) (.slice none y J)).run f8 w=.ok (.bool a.isNone) w:=fun w a n c y J=>Lib.run_eql_slice_nil w _ _ a n c y J Tryz.underlying32
 go_enter Tryz.func179,Tryz.ntmps179;go_wp2
 go_ret
 exact⟨rfl,rfl⟩
def DY:Ent:=(179,e1 (sd (.sl 41)) fun p=>(⟨.one (.c (.own (0,0) true 41)),[.l (gd p 0).rows]⟩,leI ((gd p 0).rows.length:Int) 2000000))
theorem NW:ay f8 DY:=cK fun p h=>by
 have h:leI ((gd p 0).rows.length:Int) 2000000=true:=h;simp only[leI,g5] at h;refine aJ.of rfl ⟨cB Tryz.func179 (by kernel_rfl) (by kernel_rfl),fun w prot Z J O=>?_⟩;obtain⟨u,hu,hv⟩:=J.2 0 _ rfl;have a0:Z = #[u]:=by
  have hs:Z.size=1:=J.1;refine Array.ext (by simpa using hs) fun i h1 h2=>?_
  have:i=0:=by omega
  subst this;rw[n8 h1] at hu;injection hu
 subst a0;have hv:VD f8 w prot (.sl 41) (gd p 0) u:=hv;generalize gd p 0=x at *;obtain⟨A,c,rfl,h1,h2,h3,h4⟩:=Hy Cq (by decide) hv;cases A with
 | none =>
  have Y:x.rows.length=0:=by
   rcases E0 x.rows.length with h' | h'
   ·exact h'
   ·obtain⟨b,o,M⟩:=h3 h';cases M
  have a1:x.rows = []:=v7 Y;refine (Ro x.rows.length c w).mono ?_;rintro ex w' ⟨rfl,rfl⟩;obtain⟨g',y⟩:=mM (x:=x) (prot:=prot) (w:=w') (w':=w') Cq O (Below.refl _ _) (v:=.slice none 0 0) ⟨fy _ _,.inl ⟨rfl,Y⟩⟩;exact⟨_,g',rfl,y.below,y.val,y.prot,y.fresh⟩
 | some ad =>
  refine (Vp ad x.rows.length c (lE 2 x.rows) w (fy _ _) (by omega) (fun j u hj=>?_) (Cy _ _)).mono ?_
  ·have V:0<x.rows.length:=by have:=(g7.1 hj).1;rw[fy] at this;omega
   obtain⟨b,o,M⟩:=h3 V;injection M with M;subst M;rw[C1];exact (h4 b o rfl j u hj).1
  ·rintro ex w' ⟨v',rfl,U,W⟩;obtain⟨g',y⟩:=mM (x:=x) (prot:=prot) Cq O W U;exact⟨_,g',rfl,y.below,y.val,y.prot,y.fresh⟩
theorem Ie:br f8 93=some (List.replicate 4 (.int .i64)):=by kernel_rfl
abbrev XQ:Value:=(.agg #[.int .i64 0,.int .i64 0,.int .i64 0,.int .i64 0])
theorem aan:(Tryz.prog.info? 93).map (fun i=>(i.zero,i.size,i.bytes))=some (some XQ,4,32):=by kernel_rfl
theorem VW(a:Addr)(n c:Nat)(y:List Value)(w:World)(hl:y.length=n*4)(hn:n<=2000000)(hc:∀j u,y[j]?=some u->w.cell? (a.add j)=some u)(h1:∀u∈y,u.oneCell'=true) :
  Calls f8 165 #[.slice (some a) n c] w fun e w'=>∃J,e=.returned J/\w'.ownsRow w.heap.size 93 4 J n y/\Below w.heap.size w w':=by
 obtain⟨i0,Z,W,Y,a0⟩:=info_parts aan;have a1:Tryz.prog.follows .mixedOrders=true:=by kernel_rfl
 have a3:∀(w:World) (a:Option Addr) (n c O V:Nat),(binOp .eql 34 (.slice a n c) (.slice none O V)).run f8 w=.ok (.bool a.isNone) w:=fun w a n c O V=>Lib.run_eql_slice_nil w _ _ a n c O V Tryz.underlying34
 have A:Aside (∀j u,y[j]?=some u->w.cell? (a.add j)=some u):=hc;clear hc;go_enter Tryz.func165,Tryz.ntmps165
 go_wp2_with (at_builtin;refine wpList_append_own _ rfl _ _ 34 rfl w.heap.size 93 i0 XQ 4 32 Tryz.underlying34 Z W Y a0 rfl (by decide) _ _ _ rfl (L2 w #[] 0 (i8 _) (n5 _) (by simp)) a n c y rfl ?qc1 ?qc2 ?qc3 ?qc4 ?qc5 ?qc6 ?_)
 case qc1=>exact hl
 case qc2 =>intro j u hj;exact Lib.cell?_alloc_some _ (A.out j u hj)
 case qc3=>exact h1
 case qc4=>rw[m0];unfold maxLen;omega
 case qc5=>rw[m0];omega
 case qc6=>simp
 intro J w1 U M a2;go_wp2
 go_ret
 refine⟨J,rfl,by simpa using U,?_⟩;exact ((Below.refl _ w).alloc (i8 _) _).grown M (by simp) (by intro k hk;simp[Value.ownBlock] at hk;omega)
theorem Uk(n c:Nat)(w:World) :
  Calls f8 165 #[.slice none n c] w fun e w'=>e=.returned (.slice none 0 0)/\w'=w:=by
 have M:Tryz.prog.follows .mixedOrders=true:=by kernel_rfl
 have O:∀(w:World) (a:Option Addr) (n c y J:Nat),(binOp .eql 34 (.slice a n c) (.slice none y J)).run f8 w=.ok (.bool a.isNone) w:=fun w a n c y J=>Lib.run_eql_slice_nil w _ _ a n c y J Tryz.underlying34
 go_enter Tryz.func165,Tryz.ntmps165;go_wp2
 go_ret
 exact⟨rfl,rfl⟩
def nP:Ent:=(165,e1 (sd (.sl 93)) fun p=>(⟨.one (.c (.own (0,0) true 93)),[.l (gd p 0).rows]⟩,leI ((gd p 0).rows.length:Int) 2000000))
theorem nO:ay f8 nP:=cK fun p h=>by
 have h:leI ((gd p 0).rows.length:Int) 2000000=true:=h;simp only[leI,g5] at h;refine aJ.of rfl ⟨cB Tryz.func165 (by kernel_rfl) (by kernel_rfl),fun w prot Z J O=>?_⟩;obtain⟨u,hu,hv⟩:=J.2 0 _ rfl;have a0:Z = #[u]:=by
  have hs:Z.size=1:=J.1;refine Array.ext (by simpa using hs) fun i h1 h2=>?_
  have:i=0:=by omega
  subst this;rw[n8 h1] at hu;injection hu
 subst a0;have hv:VD f8 w prot (.sl 93) (gd p 0) u:=hv;generalize gd p 0=x at *;obtain⟨A,c,rfl,h1,h2,h3,h4⟩:=Hy Ie (by decide) hv;cases A with
 | none =>
  have Y:x.rows.length=0:=by
   rcases E0 x.rows.length with h' | h'
   ·exact h'
   ·obtain⟨b,o,M⟩:=h3 h';cases M
  have a1:x.rows = []:=v7 Y;refine (Uk x.rows.length c w).mono ?_;rintro ex w' ⟨rfl,rfl⟩;obtain⟨g',y⟩:=mM (x:=x) (prot:=prot) (w:=w') (w':=w') Ie O (Below.refl _ _) (v:=.slice none 0 0) ⟨fy _ _,.inl ⟨rfl,Y⟩⟩;exact⟨_,g',rfl,y.below,y.val,y.prot,y.fresh⟩
 | some ad =>
  refine (VW ad x.rows.length c (lE 4 x.rows) w (fy _ _) (by omega) (fun j u hj=>?_) (Cy _ _)).mono ?_
  ·have V:0<x.rows.length:=by have:=(g7.1 hj).1;rw[fy] at this;omega
   obtain⟨b,o,M⟩:=h3 V;injection M with M;subst M;rw[C1];exact (h4 b o rfl j u hj).1
  ·rintro ex w' ⟨v',rfl,U,W⟩;obtain⟨g',y⟩:=mM (x:=x) (prot:=prot) Ie O W U;exact⟨_,g',rfl,y.below,y.val,y.prot,y.fresh⟩
theorem Dh:br f8 70=some (List.replicate 2 (.int .i64)):=by kernel_rfl
abbrev RQ:Value:=(.agg #[.int .i64 0,.int .i64 0])
theorem XB:(Tryz.prog.info? 70).map (fun i=>(i.zero,i.size,i.bytes))=some (some RQ,2,16):=by kernel_rfl
theorem TS(a:Addr)(n c:Nat)(y:List Value)(w:World)(hl:y.length=n*2)(hn:n<=2000000)(hc:∀j u,y[j]?=some u->w.cell? (a.add j)=some u)(h1:∀u∈y,u.oneCell'=true) :
  Calls f8 119 #[.slice (some a) n c] w fun e w'=>∃J,e=.returned J/\w'.ownsRow w.heap.size 70 2 J n y/\Below w.heap.size w w':=by
 obtain⟨i0,Z,W,Y,a0⟩:=info_parts XB;have a1:Tryz.prog.follows .mixedOrders=true:=by kernel_rfl
 have a3:∀(w:World) (a:Option Addr) (n c O V:Nat),(binOp .eql 54 (.slice a n c) (.slice none O V)).run f8 w=.ok (.bool a.isNone) w:=fun w a n c O V=>Lib.run_eql_slice_nil w _ _ a n c O V Tryz.underlying54
 have A:Aside (∀j u,y[j]?=some u->w.cell? (a.add j)=some u):=hc;clear hc;go_enter Tryz.func119,Tryz.ntmps119
 go_wp2_with (at_builtin;refine wpList_append_own _ rfl _ _ 54 rfl w.heap.size 70 i0 RQ 2 16 Tryz.underlying54 Z W Y a0 rfl (by decide) _ _ _ rfl (L2 w #[] 0 (i8 _) (n5 _) (by simp)) a n c y rfl ?qc1 ?qc2 ?qc3 ?qc4 ?qc5 ?qc6 ?_)
 case qc1=>exact hl
 case qc2 =>intro j u hj;exact Lib.cell?_alloc_some _ (A.out j u hj)
 case qc3=>exact h1
 case qc4=>rw[m0];unfold maxLen;omega
 case qc5=>rw[m0];omega
 case qc6=>simp
 intro J w1 U M a2;go_wp2
 go_ret
 refine⟨J,rfl,by simpa using U,?_⟩;exact ((Below.refl _ w).alloc (i8 _) _).grown M (by simp) (by intro k hk;simp[Value.ownBlock] at hk;omega)
theorem Qx(n c:Nat)(w:World) :
  Calls f8 119 #[.slice none n c] w fun e w'=>e=.returned (.slice none 0 0)/\w'=w:=by
 have M:Tryz.prog.follows .mixedOrders=true:=by kernel_rfl
 have O:∀(w:World) (a:Option Addr) (n c y J:Nat),(binOp .eql 54 (.slice a n c) (.slice none y J)).run f8 w=.ok (.bool a.isNone) w:=fun w a n c y J=>Lib.run_eql_slice_nil w _ _ a n c y J Tryz.underlying54
 go_enter Tryz.func119,Tryz.ntmps119;go_wp2
 go_ret
 exact⟨rfl,rfl⟩
def uU:Ent:=(119,e1 (sd (.sl 70)) fun p=>(⟨.one (.c (.own (0,0) true 70)),[.l (gd p 0).rows]⟩,leI ((gd p 0).rows.length:Int) 2000000))
theorem yY:ay f8 uU:=cK fun p h=>by
 have h:leI ((gd p 0).rows.length:Int) 2000000=true:=h;simp only[leI,g5] at h;refine aJ.of rfl ⟨cB Tryz.func119 (by kernel_rfl) (by kernel_rfl),fun w prot Z J O=>?_⟩;obtain⟨u,hu,hv⟩:=J.2 0 _ rfl;have a0:Z = #[u]:=by
  have hs:Z.size=1:=J.1;refine Array.ext (by simpa using hs) fun i h1 h2=>?_
  have:i=0:=by omega
  subst this;rw[n8 h1] at hu;injection hu
 subst a0;have hv:VD f8 w prot (.sl 70) (gd p 0) u:=hv;generalize gd p 0=x at *;obtain⟨A,c,rfl,h1,h2,h3,h4⟩:=Hy Dh (by decide) hv;cases A with
 | none =>
  have Y:x.rows.length=0:=by
   rcases E0 x.rows.length with h' | h'
   ·exact h'
   ·obtain⟨b,o,M⟩:=h3 h';cases M
  have a1:x.rows = []:=v7 Y;refine (Qx x.rows.length c w).mono ?_;rintro ex w' ⟨rfl,rfl⟩;obtain⟨g',y⟩:=mM (x:=x) (prot:=prot) (w:=w') (w':=w') Dh O (Below.refl _ _) (v:=.slice none 0 0) ⟨fy _ _,.inl ⟨rfl,Y⟩⟩;exact⟨_,g',rfl,y.below,y.val,y.prot,y.fresh⟩
 | some ad =>
  refine (TS ad x.rows.length c (lE 2 x.rows) w (fy _ _) (by omega) (fun j u hj=>?_) (Cy _ _)).mono ?_
  ·have V:0<x.rows.length:=by have:=(g7.1 hj).1;rw[fy] at this;omega
   obtain⟨b,o,M⟩:=h3 V;injection M with M;subst M;rw[C1];exact (h4 b o rfl j u hj).1
  ·rintro ex w' ⟨v',rfl,U,W⟩;obtain⟨g',y⟩:=mM (x:=x) (prot:=prot) Dh O W U;exact⟨_,g',rfl,y.below,y.val,y.prot,y.fresh⟩
set_option maxRecDepth 4096
def amM(z:D)(k:Nat):Bool:=(gd (z.rows.getD k []) 3).int==3
theorem acp{n:Nat}{C:Nat->Bool}:((List.range n).all fun k => !C k) = !(List.range n).any C:=by simp[List.all_eq_not_any_not]
def dG:List S:= [si,si,si,si]
def TK(p q:b8):Bool:=((gd p 0).int==(gd q 0).int)&&(((gd p 1).int==(gd q 1).int)&&(((gd p 2).int==(gd q 2).int)&&(((gd p 3).int==(gd q 3).int)&&(true))))
theorem IW(p:b8):TK p p=true:=by simp[TK]
def DA:D->D->Bool:=ga (fun r s=>TK (sub r 0 4) (sub s 0 4))
theorem Uo(z:D):DA z z=true:=ib (fun r=>by exact IW _) z
def ZE(p q:b8):Bool:=((gd p 0).int==(gd q 0).int)&&((YB (gd p 1) (gd q 1))&&(true))
theorem YV(p:b8):ZE p p=true:=by simp[ZE,QB]
def Vd:D->D->Bool:=ga (fun r s=>ZE (sub r 0 2) (sub s 0 2))
theorem DN(z:D):Vd z z=true:=ib (fun r=>by exact YV _) z
def aR:List S:= [si,.sl 41,.sl 41,.sl 108,.sl 93,.sl 75,.sl 3,.sl 3,si]
def LD(p q:b8):Bool:=((gd p 0).int==(gd q 0).int)&&((xJ (gd p 1) (gd q 1))&&((xJ (gd p 2) (gd q 2))&&((UU (gd p 3) (gd q 3))&&((DA (gd p 4) (gd q 4))&&((Vd (gd p 5) (gd q 5))&&((PN (gd p 6) (gd q 6))&&((PN (gd p 7) (gd q 7))&&(((gd p 8).int==(gd q 8).int)&&(true)))))))))
theorem Ux(p:b8):LD p p=true:=by simp[LD,nG,nG,EN,Uo,DN,sn,sn]
abbrev acT:=find [uN]
abbrev acl:=[0,2]
theorem adk(N:Nat)(p:b8):bf f8 acT N acl Tryz.f105 rb [⟨ri,p⟩]=some (bo,
 ob (inB (gd p 0).int 1 60)):=by kernel_rfl
def Ab:Ent:=(105,e1 ri fun p=>(⟨rb,[.b (inB (gd p 0).int 1 60)]⟩,true))
theorem tM:ay f8 Ab:=cK fun p h=>au (N:=0) (ks:=acl) (al (fC ⟨qi,fN⟩)) Tryz.func105 fun hw=>by
 rw[adk]
 skip
abbrev WV:=find [pR]
abbrev Wc:=[0,2]
theorem Zr(N:Nat)(p:b8):bf f8 WV N Wc Tryz.f92 rb [⟨ri,p⟩]=some (bo,
 ob (inB (gd p 0).int 1 60)):=by kernel_rfl
def ou:Ent:=(92,e1 ri fun p=>(⟨rb,[.b (inB (gd p 0).int 1 60)]⟩,true))
theorem kD:ay f8 ou:=cK fun p h=>au (N:=0) (ks:=Wc) (al (fC ⟨nk,fN⟩)) Tryz.func92 fun hw=>by
 rw[Zr]
 skip
abbrev SH:=find []
theorem Vn:av f8 SH:=al (fN)
abbrev Sc:=[0,2]
theorem WQ(N:Nat)(p:b8):bf f8 SH N Sc Tryz.f176 rb [⟨ri,p⟩]=some (bo,
 bif (gd p 0).int==1 then ob true
 else ob ((gd p 0).int==2)):=by kernel_rfl
def dn(p:b8):Bool:=
 bif (gd p 0).int==1 then true
 else (gd p 0).int==2
def zD:Ent:=(176,e1 ri fun p=>(⟨rb,[.b (dn [gd p 0])]⟩,true))
theorem yv:ay f8 zD:=cK fun p h=>au (N:=0) (ks:=Sc) Vn Tryz.func176 fun hw=>by
 rw[WQ]
 try simp only[er,ez,eo]
 rfl
abbrev OY:=find []
theorem Qf:av f8 OY:=al (fN)
abbrev LT:=[0,2]
theorem TQ(N:Nat)(p:b8):bf f8 OY N LT Tryz.f237 rb [⟨ri,p⟩]=some (bo,
 bif (gd p 0).int==1 then ob true
 else ob ((gd p 0).int==2)):=by kernel_rfl
def nc(p:b8):Bool:=
 bif (gd p 0).int==1 then true
 else (gd p 0).int==2
def Ct:Ent:=(237,e1 ri fun p=>(⟨rb,[.b (nc [gd p 0])]⟩,true))
theorem FM:ay f8 Ct:=cK fun p h=>au (N:=0) (ks:=LT) Qf Tryz.func237 fun hw=>by
 rw[TQ]
 try simp only[er,ez,eo]
 rfl
abbrev ahW:=find []
theorem adV:av f8 ahW:=al (fN)
abbrev ahc:=[0,2]
theorem agD(N:Nat)(p:b8):bf f8 ahW N ahc Tryz.f113 (ag aI) [⟨ri,p⟩]=some (bo,
 some (1,[gd p 0,.i (w64 ((gd p 0).int+1))])):=by kernel_rfl
def NC:Ent:=(113,e1 ri fun p=>(⟨ag aI,[gd p 0,.i (w64 ((gd p 0).int+1))]⟩,true))
theorem DD:ay f8 NC:=cK fun p h=>au (N:=0) (ks:=ahc) adV Tryz.func113 fun hw=>by
 rw[agD]
 skip
abbrev Sq:=find []
theorem TG:av f8 Sq:=al (fN)
abbrev Sl:=[0,2]
theorem Xq(N:Nat)(p:b8):bf f8 Sq N Sl Tryz.f98 (ag aI) [⟨ri,p⟩]=some (bo,
 some (1,[gd p 0,.i (w64 ((gd p 0).int+1))])):=by kernel_rfl
def zA:Ent:=(98,e1 ri fun p=>(⟨ag aI,[gd p 0,.i (w64 ((gd p 0).int+1))]⟩,true))
theorem xU:ay f8 zA:=cK fun p h=>au (N:=0) (ks:=Sl) TG Tryz.func98 fun hw=>by
 rw[Xq]
 skip
abbrev Xd:=find []
theorem WK:av f8 Xd:=al (fN)
abbrev Xm:=[0,1,2]
theorem aaV(N:Nat)(p:b8):bf f8 Xd N Xm Tryz.f160 (ag aI) [⟨ag dG,p⟩]=some (bo,
 some (1,sub p 1 2)):=by kernel_rfl
def Gi:Ent:=(160,e1 (ag dG) fun p=>(⟨ag aI,[gd p 1,gd p 2]⟩,true))
theorem BM:ay f8 Gi:=cK fun p h=>au (N:=0) (ks:=Xm) WK Tryz.func160 fun hw=>by rw[aaV];rfl
abbrev Ja:=find []
theorem MB:av f8 Ja:=al (fN)
abbrev Iu:=[0,1,2]
theorem QC(N:Nat)(p:b8):bf f8 Ja N Iu Tryz.f65 (ag aI) [⟨ag dG,p⟩]=some (bo,
 some (1,sub p 1 2)):=by kernel_rfl
def ig:Ent:=(65,e1 (ag dG) fun p=>(⟨ag aI,[gd p 1,gd p 2]⟩,true))
theorem gL:ay f8 ig:=cK fun p h=>au (N:=0) (ks:=Iu) MB Tryz.func65 fun hw=>by rw[QC];rfl
abbrev Xa:=find []
theorem WU:av f8 Xa:=al (fN)
abbrev XD:=[0,1,2,3,4]
theorem ZJ(N:Nat)(p q:b8):bf f8 Xa N XD Tryz.f181 rb [⟨ag aI,p⟩,⟨ag aI,q⟩]=some (bo,
 bif ltI (gd p 0).int (gd q 1).int then ob (ltI (gd q 0).int (gd p 1).int)
 else ob false):=by kernel_rfl
def eJ(p q:b8):Bool:=
 bif ltI (gd p 0).int (gd q 1).int then ltI (gd q 0).int (gd p 1).int
 else false
def On:Ent:=(181,e2 (ag aI) (ag aI) fun p q=>(⟨rb,[.b (eJ p q)]⟩,true))
theorem OI:ay f8 On:=bm fun p q h=>au (N:=0) (ks:=XD) WU Tryz.func181 fun hw=>by
 rw[ZJ]
 try simp only[er,ez,eo]
 rfl
abbrev XC:=find [Gi,On]
abbrev XK:=[0,1,2,3,4]
theorem aab(N:Nat)(p q:b8):bf f8 XC N XK Tryz.f231 rb [⟨ag dG,p⟩,⟨ag dG,q⟩]=some (bo,
 bif (gd p 0).int != (gd q 0).int then bif (gd p 3).int==2 then ob (eJ [gd p 1,gd p 2] [gd q 1,gd q 2])
 else bif (gd q 3).int==2 then ob (eJ [gd p 1,gd p 2] [gd q 1,gd q 2])
 else ob false
 else ob false):=by kernel_rfl
def cX(p q:b8):Bool:=
 bif (gd p 0).int != (gd q 0).int then bif (gd p 3).int==2 then eJ [gd p 1,gd p 2] [gd q 1,gd q 2]
 else bif (gd q 3).int==2 then eJ [gd p 1,gd p 2] [gd q 1,gd q 2]
 else false
 else false
def Oq:Ent:=(231,e2 (ag dG) (ag dG) fun p q=>(⟨rb,[.b (cX p q)]⟩,true))
theorem LW:ay f8 Oq:=bm fun p q h=>au (N:=0) (ks:=XK) (al (fC ⟨BM,fC ⟨OI,fN⟩⟩)) Tryz.func231 fun hw=>by
 rw[aab]
 try simp only[er,ez,eo]
 rfl
abbrev Yv:=find []
theorem WL:av f8 Yv:=al (fN)
abbrev XP:=[0,1,4,7]
theorem aak(N:Nat)(p q:b8):bf f8 Yv N XP Tryz.f187 ri [⟨ri,p⟩,⟨ri,q⟩]=some (bo,
 bif ltI (gd q 0).int (gd p 0).int then some (1,[gd p 0])
 else some (1,[gd q 0])):=by kernel_rfl
def KT(x y:D):D:=bif ltI y.int x.int then x else y
def Ko(x y:D):D:=bif ltI x.int y.int then x else y
def Yt:Ent:=(187,e2 ri ri fun p q=>(⟨ri,[KT (gd p 0) (gd q 0)]⟩,true))
theorem aba:ay f8 Yt:=bm fun p q h=>au (N:=0) (ks:=XP) WL Tryz.func187 fun hw=>by rw[aak];show some (bo,bif ltI (gd q 0).int (gd p 0).int then some (1,[gd p 0]) else some (1,[gd q 0]))=some (bo,some (1,[bif ltI (gd q 0).int (gd p 0).int then gd p 0 else gd q 0]));cases ltI (gd q 0).int (gd p 0).int <;> rfl
abbrev YC:=find []
theorem VZ:av f8 YC:=al (fN)
abbrev YS:=[0,1,4,7]
theorem aar(N:Nat)(p q:b8):bf f8 YC N YS Tryz.f188 ri [⟨ri,p⟩,⟨ri,q⟩]=some (bo,
 bif ltI (gd p 0).int (gd q 0).int then some (1,[gd p 0])
 else some (1,[gd q 0])):=by kernel_rfl
def XA:Ent:=(188,e2 ri ri fun p q=>(⟨ri,[Ko (gd p 0) (gd q 0)]⟩,true))
theorem ZF:ay f8 XA:=bm fun p q h=>au (N:=0) (ks:=YS) VZ Tryz.func188 fun hw=>by rw[aar];show some (bo,bif ltI (gd p 0).int (gd q 0).int then some (1,[gd p 0]) else some (1,[gd q 0]))=some (bo,some (1,[bif ltI (gd p 0).int (gd q 0).int then gd p 0 else gd q 0]));cases ltI (gd p 0).int (gd q 0).int <;> rfl
abbrev EQ:=find [Yt,XA,fD]
abbrev FG:=[0,1,2,3,4,5,6,30]
def tH(N:Nat)(p q:b8):List b8:= [[.i 0],[KT (gd p 0) (gd q 0),Ko (gd p 1) (gd q 1)],[Ko (gd p 1) (gd q 1)],[KT (gd p 0) (gd q 0)],[gd q 1],[.i 0],[gd p 1],[.i 0],[gd q 0],[.i 0],[gd p 0],[.i 0],p,q,[.i 0],[.i 0],[.i 0],[.i 0],[gd p 0,gd p 1],[gd q 0,gd q 1],[.i 0,.i 0],[KT (gd p 0) (gd q 0),Ko (gd p 1) (gd q 1)]]
theorem Na(N:Nat)(p q:b8):bf f8 EQ N FG Tryz.f64 (.tup [.agg [.d si,.d si],.c (.d (.bool))]) [⟨ag aI,p⟩,⟨ag aI,q⟩]=some (bo,
 ndN 3 (em (tH N p q) (tH N p q)) (bif !(ax (sub p 0 2)) then some (1,[.i 0,.i 0,.b false])
 else bif !(ax (sub q 0 2)) then some (1,[.i 0,.i 0,.b false])
 else bif !(ax [KT (gd p 0) (gd q 0),Ko (gd p 1) (gd q 1)]) then some (1,[.i 0,.i 0,.b false])
 else some (1,[KT (gd p 0) (gd q 0),Ko (gd p 1) (gd q 1),.b true]))):=by kernel_rfl
def cP(p q:b8):b8:=bif ax p&&(ax q&&ax [KT (gd p 0) (gd q 0),Ko (gd p 1) (gd q 1)]) then[KT (gd p 0) (gd q 0),Ko (gd p 1) (gd q 1),.b true] else[.i 0,.i 0,.b false]
def wu(p q:b8):Bool:=ax p&&(ax q&&ax [KT (gd p 0) (gd q 0),Ko (gd p 1) (gd q 1)])
theorem acv(p q:b8):(gd (cP p q) 2).bool=wu p q:=by unfold cP wu;cases ax p&&(ax q&&ax [KT (gd p 0) (gd q 0),Ko (gd p 1) (gd q 1)]) <;> rfl
theorem aka(a b:Bool):(bif a then b else false)=(a&&b):=by cases a <;> rfl
theorem XH{p q:b8}(y:ax p=true)(J:ax q=true):wu p q=eJ p q:=by unfold wu eJ;rw[y,J,aka];simp only[ax,a9,g5] at y J;unfold ax KT Ko ltI;by_cases h1:(gd q 0).int<(gd p 0).int <;> by_cases M:(gd p 1).int<(gd q 1).int <;> simp only[h1,M,decide_true,decide_false,g6,f9,aq,ap] <;> rw[y0] <;> simp only[a9,g5,true_and] <;> omega
def ml:Ent:=(64,e2 (ag aI) (ag aI) fun p q=>(⟨.tup [.agg [.d si,.d si],.c (.d (.bool))],sub (cP p q) 0 3⟩,true))
theorem md:ay f8 ml:=bm fun p q h=>au (N:=0) (ks:=FG) (al (fC ⟨aba,fC ⟨ZF,fC ⟨eA,fN⟩⟩⟩)) Tryz.func64 fun hw=>by
 rw[Na];simp only[bn,lB,aU];rw[show ax (sub p 0 2)=ax p from rfl,show ax (sub q 0 2)=ax q from rfl];unfold cP;cases ax p <;> cases ax q <;> try rfl
 cases ax [KT (gd p 0) (gd q 0),Ko (gd p 1) (gd q 1)] <;> rfl
abbrev IL:=find [ig,ml]
abbrev JM:=[0,1,2,3,4,6]
def wS(N:Nat)(p q:b8):List b8:= [[gd (cP [gd p 1,gd p 2] [gd q 1,gd q 2]) 2],[.i 0],[gd (cP [gd p 1,gd p 2] [gd q 1,gd q 2]) 2],[gd (cP [gd p 1,gd p 2] [gd q 1,gd q 2]) 0,gd (cP [gd p 1,gd p 2] [gd q 1,gd q 2]) 1],sub (cP [gd p 1,gd p 2] [gd q 1,gd q 2]) 0 3,sub (cP [gd p 1,gd p 2] [gd q 1,gd q 2]) 0 3,[gd q 1,gd q 2],[gd p 1,gd p 2],sub q 0 4,sub p 0 4,p,q,[.i 0],[.i 0],[.i 0],sub p 0 4,sub q 0 4,[gd (cP [gd p 1,gd p 2] [gd q 1,gd q 2]) 0,gd (cP [gd p 1,gd p 2] [gd q 1,gd q 2]) 1]]
theorem Qc(N:Nat)(p q:b8):bf f8 IL N JM Tryz.f238 rb [⟨ag dG,p⟩,⟨ag dG,q⟩]=some (bo,
 ndN 8 (em (wS N p q) (wS N p q)) (bif (gd (cP [gd p 1,gd p 2] [gd q 1,gd q 2]) 2).bool then bif (gd p 0).int != (gd q 0).int then bif (gd p 3).int==2 then ob true
 else ob ((gd q 3).int==2)
 else ob false
 else ob false)):=by kernel_rfl
def lO(p q:b8):Bool:=wu [gd p 1,gd p 2] [gd q 1,gd q 2]&&(!((gd p 0).int==(gd q 0).int)&&(((gd p 3).int==2)||((gd q 3).int==2)))
theorem GK{p q:b8}(y:ax [gd p 1,gd p 2]=true)(J:ax [gd q 1,gd q 2]=true):lO p q=cX p q:=by unfold lO cX;rw[XH y J,iS];cases (gd p 0).int==(gd q 0).int <;> cases (gd p 3).int==2 <;> cases (gd q 3).int==2 <;> cases eJ [gd p 1,gd p 2] [gd q 1,gd q 2] <;> rfl
def xB:Ent:=(238,e2 (ag dG) (ag dG) fun p q=>(⟨rb,[.b (lO p q)]⟩,true))
theorem Bf:ay f8 xB:=bm fun p q h=>au (N:=0) (ks:=JM) (al (fC ⟨gL,fC ⟨md,fN⟩⟩)) Tryz.func238 fun hw=>by rw[Qc];simp only[bn,lB,aU,acv,iS];unfold lO;cases wu [gd p 1,gd p 2] [gd q 1,gd q 2] <;> cases (gd p 0).int==(gd q 0).int <;> cases (gd p 3).int==2 <;> cases (gd q 3).int==2 <;> rfl
abbrev MH:=find [fD]
abbrev OJ:=[0,1,2,3,4]
theorem TX(N:Nat)(p q:b8):bf f8 MH N OJ Tryz.f202 rb [⟨ag aI,p⟩,⟨ag aI,q⟩]=some (bo,
 bif ax (sub p 0 2) then bif ax (sub q 0 2) then bif leI (gd q 0).int (gd p 0).int then ob (leI (gd p 1).int (gd q 1).int)
 else ob false
 else ob false
 else ob false):=by kernel_rfl
def gK(p q:b8):Bool:=
 bif ax (sub p 0 2) then bif ax (sub q 0 2) then bif leI (gd q 0).int (gd p 0).int then leI (gd p 1).int (gd q 1).int
 else false
 else false
 else false
def PU:Ent:=(202,e2 (ag aI) (ag aI) fun p q=>(⟨rb,[.b (gK p q)]⟩,true))
theorem Vt:ay f8 PU:=bm fun p q h=>au (N:=0) (ks:=OJ) (al (fC ⟨eA,fN⟩)) Tryz.func202 fun hw=>by
 rw[TX]
 try simp only[er,ez,eo]
 rfl
theorem Wo{L:b8->Out}(st:Nat->b8)(n:Nat)(C:Nat->Bool)(v:b8)(j:Nat)(h1:∀k,k<n->L (st k)=some (bif C k then (1,v) else (0,st (k+1))))(y:L (st n)=some (j+2,st n)){N:Nat}(J:n<N) :
  aX L N (st 0)=some (bif (List.range n).any C then (1,v) else (j+2,st n)):=by
 have e:=dE st n (fun k => !C k) v j (fun k hk=>by rw[h1 k hk];cases C k <;> rfl) y J;rw[e,acp];cases (List.range n).any C <;> rfl
abbrev DO:=find [Oq]
abbrev Gp:=[0,1,2,3]
theorem Nj(N:Nat)(p q:b8):bf f8 DO N Gp Tryz.f230 rb [⟨ag dG,p⟩,⟨.one (.c (.cptr [si,si,si,si] 0)),q⟩]=some (bo,
 ob (cX (sub ((gd q 0).rows.getD 0 []) 0 4) (sub p 0 4))):=by kernel_rfl
def qa(p q:b8):Bool:=
 cX (sub ((gd q 0).rows.getD 0 []) 0 4) (sub p 0 4)
def vm:Ent:=(230,e2 (ag dG) (.one (.c (.cptr [si,si,si,si] 0))) fun p q=>(⟨rb,[.b (qa p [gd q 0])]⟩,true))
theorem yU:ay f8 vm:=bm fun p q h=>au (N:=0) (ks:=Gp) (al (fC ⟨LW,fN⟩)) Tryz.func230 fun hw=>by
 rw[Nj]
 try simp only[er,ez,eo]
 rfl
abbrev zt:=find []
theorem Dw:av f8 zt:=al (fN)
abbrev ym:=[0,1,2,3,4,5]
theorem HT(N:Nat)(p q r s:b8):bf f8 zt N ym Tryz.f177 rb [⟨ag dG,p⟩,⟨.one (.c (.cptr [si] 0)),q⟩,⟨.one (.c (.cptr [si] 0)),r⟩,⟨.one (.c (.cptr [si,si] 0)),s⟩]=some (bo,
 bif (gd p 0).int==(gd ((gd q 0).rows.getD 0 []) 0).int then bif (gd p 3).int==(gd ((gd r 0).rows.getD 0 []) 0).int then bif leI (gd p 1).int (gd ((gd s 0).rows.getD 0 []) 0).int then ob (leI (gd ((gd s 0).rows.getD 0 []) 1).int (gd p 2).int)
 else ob false
 else bif (gd p 3).int==2 then bif leI (gd p 1).int (gd ((gd s 0).rows.getD 0 []) 0).int then ob (leI (gd ((gd s 0).rows.getD 0 []) 1).int (gd p 2).int)
 else ob false
 else ob false
 else ob false):=by kernel_rfl
def fg(p q r s:b8):Bool:=
 bif (gd p 0).int==(gd ((gd q 0).rows.getD 0 []) 0).int then bif (gd p 3).int==(gd ((gd r 0).rows.getD 0 []) 0).int then bif leI (gd p 1).int (gd ((gd s 0).rows.getD 0 []) 0).int then leI (gd ((gd s 0).rows.getD 0 []) 1).int (gd p 2).int
 else false
 else bif (gd p 3).int==2 then bif leI (gd p 1).int (gd ((gd s 0).rows.getD 0 []) 0).int then leI (gd ((gd s 0).rows.getD 0 []) 1).int (gd p 2).int
 else false
 else false
 else false
def qP:Ent:=(177,e4 (ag dG) (.one (.c (.cptr [si] 0))) (.one (.c (.cptr [si] 0))) (.one (.c (.cptr [si,si] 0))) fun p q r s=>(⟨rb,[.b (fg p [gd q 0] [gd r 0] [gd s 0])]⟩,true))
theorem ut:ay f8 qP:=Bc fun p q r s h=>au (N:=0) (ks:=ym) Dw Tryz.func177 fun hw=>by
 rw[HT]
 try simp only[er,ez,eo]
 rfl
abbrev aaU:=find [vm]
abbrev ZD:=[0,1,4,5,7,8,9,16]
def FR(N:Nat)(p q:b8):b8->Out:=bb f8 aaU N ZD Tryz.f234 ri [⟨sd (.sl 93),p⟩,⟨.one (.c (.fn 230 [.cptr [si,si,si,si] 0])),q⟩] 0
theorem abE(N:Nat)(p q:b8)(y J O M x4:D):(FR N p q) [y,J,O,M,x4] =
 bif ltI x4.int M.int then nd (ah x4.int y.rows.length) (bif qa (sub (y.rows.getD x4.int.toNat []) 0 4) [(gd (J.rows.getD 0 []) 0)] then some (1,[x4])
 else nx [y,J,O,M,.i (w64 (x4.int+1))])
 else ex 0 [y,J,O,M,x4]:=by kernel_rfl
theorem aiD(N:Nat)(p q:b8):bf f8 aaU N ZD Tryz.f234 ri [⟨sd (.sl 93),p⟩,⟨.one (.c (.fn 230 [.cptr [si,si,si,si] 0])),q⟩]=some (bo,
 (let y:=aX (FR N p q) N [gd p 0,gd q 0,.i 0,.i ((gd p 0).rows.length:Int),.i 0]
  nd y.isSome (bif y.code==1 then some (1,y.pay)
  else nd (y.code==2) (oi (-1))))):=by kernel_rfl
def sI(c:D)(r:b8):Bool:=qa r [gd (c.rows.getD 0 []) 0]
def aiK:Ent:=(234,e2 (sd (.sl 93)) (.one (.c (.fn 230 [.cptr [si,si,si,si] 0]))) fun p q=>(⟨ri,[.i (ixF (fun k=>sI (gd q 0) (sub ((gd p 0).rows.getD k []) 0 4)) 0 (gd p 0).rows.length)]⟩,true))
theorem afp:ay f8 aiK:=bm fun p q h=>au (N:=(gd p 0).rows.length+1) (ks:=ZD) (al (fC ⟨yU,fN⟩)) Tryz.func234 fun hw=>by
 rw[aiD];have hl:=fi (hw ⟨sd (.sl 93),p⟩ (by simp));have e:=iq (L:=FR ((gd p 0).rows.length+1) p q) (fun k => [gd p 0,gd q 0,.i 0,.i ((gd p 0).rows.length:Int),.i (k:Int)]) (gd p 0).rows.length (fun k=>sI (gd q 0) (sub ((gd p 0).rows.getD k []) 0 4)) [gd p 0,gd q 0,.i 0,.i ((gd p 0).rows.length:Int),.i ((gd p 0).rows.length:Int)] (fun k hk=>?_) ?_ (gd p 0).rows.length 0 ((gd p 0).rows.length+1) (by omega) (by omega)
 ·simp only[j9] at e;rw[e];have y:=gT (fun k=>sI (gd q 0) (sub ((gd p 0).rows.getD k []) 0 4)) (gd p 0).rows.length 0;cases J:decide (ixF (fun k=>sI (gd q 0) (sub ((gd p 0).rows.getD k []) 0 4)) 0 (gd p 0).rows.length>=0)
  ·rw[y J];rfl
  ·rfl
 ·show FR _ p q [_,_,_,_,.i (k:Int)]=_;rw[abE];simp only[aA,di hk,bu hk,aG hk hl,g8];unfold sI;cases qa (sub ((gd p 0).rows.getD k []) 0 4) [gd ((gd q 0).rows.getD 0 []) 0] <;> rfl
 ·show FR _ p q [_,_,_,.i ((gd p 0).rows.length:Int),.i ((gd p 0).rows.length:Int)]=_;rw[abE];simp only[aA,ca]
abbrev agh:=find [aiK,vm]
abbrev ahj:=[0,1,4]
theorem ain(N:Nat)(p q:b8):bf f8 agh N ahj Tryz.f158 rb [⟨sd (.sl 93),p⟩,⟨.one (.c (.fn 230 [.cptr [si,si,si,si] 0])),q⟩]=some (bo,
 ob (leI 0 (ixF (fun k=>sI (.l [[gd ((gd q 0).rows.getD 0 []) 0]]) (sub ((gd p 0).rows.getD k []) 0 4)) 0 (gd p 0).rows.length))):=by kernel_rfl
def afK:Ent:=(158,e2 (sd (.sl 93)) (.one (.c (.fn 230 [.cptr [si,si,si,si] 0]))) fun p q=>(⟨rb,[.b (eL (fun y=>sI (gd q 0) (sub y 0 4)) (gd p 0))]⟩,true))
theorem aiN:ay f8 afK:=bm fun p q h=>au (N:=0) (ks:=ahj) (al (fC ⟨afp,fC ⟨yU,fN⟩⟩)) Tryz.func158 fun hw=>by rw[ain];refine congrArg (fun x=>some (bo,ob x)) ?_;exact (kq (fun k=>sI (gd q 0) (sub ((gd p 0).rows.getD k []) 0 4)) (gd p 0).rows.length 0).trans (by simp only[m0];rfl)
abbrev aal:=find [qP]
abbrev ZB:=[0,1,4,5,7,8,9,16]
def FJ(N:Nat)(p q:b8):b8->Out:=bb f8 aal N ZB Tryz.f234 ri [⟨sd (.sl 93),p⟩,⟨.one (.c (.fn 177 [.cptr [si] 0,.cptr [si] 0,.cptr [si,si] 0])),q⟩] 0
theorem abZ(N:Nat)(p q:b8)(J y O M x4:D):(FJ N p q) [J,y,O,M,x4] =
 bif ltI x4.int M.int then nd (ah x4.int J.rows.length) (bif fg (sub (J.rows.getD x4.int.toNat []) 0 4) [(gd (y.rows.getD 0 []) 0)] [(gd (y.rows.getD 0 []).tail 0)] [(gd (y.rows.getD 0 []).tail.tail 0)] then some (1,[x4])
 else nx [J,y,O,M,.i (w64 (x4.int+1))])
 else ex 0 [J,y,O,M,x4]:=by kernel_rfl
theorem aid(N:Nat)(p q:b8):bf f8 aal N ZB Tryz.f234 ri [⟨sd (.sl 93),p⟩,⟨.one (.c (.fn 177 [.cptr [si] 0,.cptr [si] 0,.cptr [si,si] 0])),q⟩]=some (bo,
 (let y:=aX (FJ N p q) N [gd p 0,gd q 0,.i 0,.i ((gd p 0).rows.length:Int),.i 0]
  nd y.isSome (bif y.code==1 then some (1,y.pay)
  else nd (y.code==2) (oi (-1))))):=by kernel_rfl
def qo(c:D)(r:b8):Bool:=fg r [gd (c.rows.getD 0 []) 0] [gd (c.rows.getD 0 []).tail 0] [gd (c.rows.getD 0 []).tail.tail 0]
def aim:Ent:=(234,e2 (sd (.sl 93)) (.one (.c (.fn 177 [.cptr [si] 0,.cptr [si] 0,.cptr [si,si] 0]))) fun p q=>(⟨ri,[.i (ixF (fun k=>qo (gd q 0) (sub ((gd p 0).rows.getD k []) 0 4)) 0 (gd p 0).rows.length)]⟩,true))
theorem aip:ay f8 aim:=bm fun p q h=>au (N:=(gd p 0).rows.length+1) (ks:=ZB) (al (fC ⟨ut,fN⟩)) Tryz.func234 fun hw=>by
 rw[aid];have hl:=fi (hw ⟨sd (.sl 93),p⟩ (by simp));have e:=iq (L:=FJ ((gd p 0).rows.length+1) p q) (fun k => [gd p 0,gd q 0,.i 0,.i ((gd p 0).rows.length:Int),.i (k:Int)]) (gd p 0).rows.length (fun k=>qo (gd q 0) (sub ((gd p 0).rows.getD k []) 0 4)) [gd p 0,gd q 0,.i 0,.i ((gd p 0).rows.length:Int),.i ((gd p 0).rows.length:Int)] (fun k hk=>?_) ?_ (gd p 0).rows.length 0 ((gd p 0).rows.length+1) (by omega) (by omega)
 ·simp only[j9] at e;rw[e];have y:=gT (fun k=>qo (gd q 0) (sub ((gd p 0).rows.getD k []) 0 4)) (gd p 0).rows.length 0;cases J:decide (ixF (fun k=>qo (gd q 0) (sub ((gd p 0).rows.getD k []) 0 4)) 0 (gd p 0).rows.length>=0)
  ·rw[y J];rfl
  ·rfl
 ·show FJ _ p q [_,_,_,_,.i (k:Int)]=_;rw[abZ];simp only[aA,di hk,bu hk,aG hk hl,g8];unfold qo;cases fg (sub ((gd p 0).rows.getD k []) 0 4) [gd ((gd q 0).rows.getD 0 []) 0] [gd ((gd q 0).rows.getD 0 []).tail 0] [gd ((gd q 0).rows.getD 0 []).tail.tail 0] <;> rfl
 ·show FJ _ p q [_,_,_,.i ((gd p 0).rows.length:Int),.i ((gd p 0).rows.length:Int)]=_;rw[abZ];simp only[aA,ca]
abbrev ahv:=find [aim,qP]
abbrev aib:=[0,1,4]
theorem ahN(N:Nat)(p q:b8):bf f8 ahv N aib Tryz.f158 rb [⟨sd (.sl 93),p⟩,⟨.one (.c (.fn 177 [.cptr [si] 0,.cptr [si] 0,.cptr [si,si] 0])),q⟩]=some (bo,
 ob (leI 0 (ixF (fun k=>qo (.l [[gd ((gd q 0).rows.getD 0 []) 0,gd ((gd q 0).rows.getD 0 []).tail 0,gd ((gd q 0).rows.getD 0 []).tail.tail 0]]) (sub ((gd p 0).rows.getD k []) 0 4)) 0 (gd p 0).rows.length))):=by kernel_rfl
def afP:Ent:=(158,e2 (sd (.sl 93)) (.one (.c (.fn 177 [.cptr [si] 0,.cptr [si] 0,.cptr [si,si] 0]))) fun p q=>(⟨rb,[.b (eL (fun y=>qo (gd q 0) (sub y 0 4)) (gd p 0))]⟩,true))
theorem afu:ay f8 afP:=bm fun p q h=>au (N:=0) (ks:=aib) (al (fC ⟨aip,fC ⟨ut,fN⟩⟩)) Tryz.func158 fun hw=>by rw[ahN];refine congrArg (fun x=>some (bo,ob x)) ?_;exact (kq (fun k=>qo (gd q 0) (sub ((gd p 0).rows.getD k []) 0 4)) (gd p 0).rows.length 0).trans (by simp only[m0];rfl)
end Go.Proofs.YtpdfmcmnjikppaaGreat
end
