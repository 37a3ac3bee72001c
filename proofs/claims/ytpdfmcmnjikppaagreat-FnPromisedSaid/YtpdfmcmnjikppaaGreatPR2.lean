/-
 Texts of the proof,put together: part 2.
-/
import Derived.Test.YtpdfmcmnjikppaaGreatPR1
import Derived.Great.FillDense
import Derived.IntWalk
import Derived.Laws.OwnMore
set_option linter.unusedSimpArgs false
set_option linter.unusedVariables false
set_option linter.unusedSectionVars false
namespace Go.Proofs.YtpdfmcmnjikppaaGreat
abbrev i6:=@List.length_append
abbrev n3:=@List.mem_append
abbrev s9:=@beq_self_eq_true
abbrev u5:=@Bool.and_self
abbrev v5:=@Array.getElem?_append_left
abbrev v6:=@List.getElem_mem
abbrev v7:=@List.eq_nil_of_length_eq_zero
abbrev y5:=@List.mem_singleton
abbrev z8:=@List.length_nil
abbrev z9:=@List.getElem?_append_left
abbrev A3:=@List.contains_iff_mem
abbrev A4:=@Bool.not_false
abbrev A5:=@List.getElem?_append
abbrev B1:=@Option.isSome_some
abbrev B5:=@List.mem_cons
abbrev B6:=@Bool.or_eq_true
abbrev B8:=@List.size_toArray
abbrev C0:=@List.append_assoc
abbrev C3:=@List.getElem?_append_right
abbrev D2:=@Array.size_append
abbrev D4:=@List.map_congr_left
abbrev D6:=@List.map_map
abbrev D7:=@Array.getElem?_append_right
abbrev D8:=@List.length_cons
abbrev D9:=@List.append_nil
abbrev F3:=@Array.getElem?_setIfInBounds
abbrev F7:=@Array.length_toList
abbrev F9:=@List.getElem?_of_mem
abbrev G5:=@List.flatMap_cons
abbrev G6:=@List.getElem?_toArray
abbrev G7:=@Bool.false_or
abbrev I3:=@Bool.or_eq_false_iff
abbrev J0:=@List.getElem?_cons_succ
abbrev J1:=@Nat.add_sub_cancel_left
abbrev J6:=@List.contains_cons
abbrev J7:=@Array.append_assoc
abbrev K3:=@Array.toList_map
abbrev K4:=@Nat.zero_mul
abbrev K6:=@Array.mapM_eq_mapM_toList
abbrev L8:=@Nat.mul_comm
abbrev L9:=@List.getElem?_set
abbrev M0:=@Nat.lt_trichotomy
abbrev M7:=@Nat.div_lt_iff_lt_mul
abbrev N1:=@Nat.le_max_right
abbrev N4:=@List.all_cons
end Go.Proofs.YtpdfmcmnjikppaaGreat
namespace Go.Proofs.YtpdfmcmnjikppaaGreat
open Go.RowKit
section
variable [Low] {P:Program} {w w':World} {g g':G} {base:Nat} {σ:St} {a:Act}
theorem Wp(a:Act)(d i:Nat)(v:Value)(y:d<a.tmps.size):(a.put (some d) v).tmps.getD i undef=if i=d then v else a.tmps.getD i undef:=by
 simp only[Act.put,A7,F3];by_cases e:i=d
 ·subst e;simp[y]
 ·rw[j7 (by omega),j7 e]
theorem de(a:Act)(d:Option Nat)(v:Value):(a.put d v).tmps.size=a.tmps.size:=by cases d <;> simp[Act.put]
theorem put_defers(a:Act)(d:Option Nat)(v:Value):(a.put d v).defers=a.defers:=by cases d <;> rfl
theorem Rel.put(y:Rel P w g base σ a){dst:Option Nat}(J:∀d,dst=some d->d<a.tmps.size){t:T}{v:Value}(hv:VT P w g base t v):Rel P w g base (σ.put dst t) (a.put dst v):=by
 cases dst with
 | none=>exact y
 | some d =>
  refine⟨fun i=>?_,y.box,y.fresh,y.base_le,⟨y.defers.1,by rw[de];exact y.defers.2⟩,y.low,y.mine⟩;rw[Wp a d i v (J d rfl)];show VT P w g base (bif i==d then t else cz i σ.e σ.r) _;by_cases e:i=d
  ·rw[m6 e,show (i==d)=true from by simpa using e];exact hv
  ·rw[j7 e,show (i==d)=false from by simpa using e];exact y.env i
theorem Rel.ext{y:Nat}(J:Rel P w g base σ a)(M:y<a.tmps.size)(h:Ext (some y) g g' w w')(W:∀b,w'.heap.size<=b->g'.prot b=0/\g'.owner b=none)(U:∀id cs ds,bS id σ.h=some (cs,ds)->id≠y) :
  Rel P w' g' base (σ.wipe y) a:=by
 have hk:jr P base g g' w w' (fL y):=fun c x v hv=>h.vc J.base_le hv
 refine⟨fun i=>J.envMap hk rfl i,fun id cs ds hl=>J.boxMap hk hl fun cs ds V=>?_,W,m8 J.base_le h.size,J.defers,h.low J (J.ne M),h.mine J (J.ne M)⟩;obtain⟨k1,k2,k3,kl,Z,E,Y,k5⟩:=J.box id cs ds V;have O:=aP Y;exact⟨h.θ id (by intro e;injection e with e;exact U id cs ds V e),h.owner _ O,h.prot _ O,h.heap _ O⟩
def oO(g:G)(d y:Nat):G:={ g with owner:=fun b=>if b=y then some (.inl d) else g.owner b,θ:=fun id=>if id=d then y else g.θ id,len:=fun t=>if t.1=d then 0 else g.len t }
def Zt(g:G)(d:Nat):G:={ g with len:=fun t=>if t.1=d then 0 else g.len t }
theorem RK(g:G)(d:Nat)(w:World):Ext (some d) g (Zt g d) w w:=
 ⟨i8 _,fun _ _=>rfl,fun t h=>⟨rfl,j7 (fun e=>h (by rw[e])),rfl,rfl⟩,fun _ _=>rfl,fun _ _=>rfl,fun _ _=>rfl,fun _ _=>⟨rfl,rfl⟩,rfl,fun _ _ _ h=>.inr h⟩
def ec(g:G)(t:Tok)(e:TypeId)(y n k:Nat)(p:Nat):G:=
 { prot:=fun b=>if b=y then p else g.prot b,owner:=fun b=>if b=y then some (.inr t) else g.owner b,θ:=g.θ,ρ:=fun u=>if u=t then y else g.ρ u,len:=fun u=>if u=t then n else g.len u,wid:=fun u=>if u=t then k else g.wid u,ety:=fun u=>if u=t then e else g.ety u,path:=g.path,need:=g.need,old:=g.old }
theorem acK(d:Nat)(o:Obj):Ext (some d) g (oO g d w.heap.size) w (w.alloc o):=by
 refine⟨by simp,fun id h=>?_,fun t h=>⟨rfl,j7 (fun e=>h (by rw[e])),rfl,rfl⟩,fun b h=>rfl,fun b h=>?_,fun b h=>Below.heap_alloc w o b h,fun _ _=>⟨rfl,rfl⟩,rfl,fun b t _ h=>?_⟩
 ·show (if id=d then _ else _)=_;rw[j7 (fun e=>h (by rw[e]))]
 ·show (if b=w.heap.size then _ else _)=_;rw[j7 (by omega)]
 ·change (if b=w.heap.size then _ else _)=_ at h
  split at h
  ·cases h
  ·exact .inr h
theorem Lz(t:Tok)(e:TypeId)(n k p:Nat)(o:Obj):Ext (some t.1) g (ec g t e w.heap.size n k p) w (w.alloc o):=by
 refine⟨by simp,fun id h=>rfl,fun u h=>?_,fun b h=>?_,fun b h=>?_,fun b h=>Below.heap_alloc w o b h,fun _ _=>⟨rfl,rfl⟩,rfl,fun b u _ h=>?_⟩
 rotate_right
 ·change (if b=w.heap.size then _ else _)=_ at h
  split at h
  ·injection h with h;injection h with h;exact .inl (by rw[h])
  ·exact .inr h
 ·have:u≠t:=fun e=>h (by rw[e])
  exact⟨j7 this,j7 this,j7 this,j7 this⟩
 ·show (if b=w.heap.size then _ else _)=_;rw[j7 (by omega)]
 ·show (if b=w.heap.size then _ else _)=_;rw[j7 (by omega)]
theorem qA(i:Nat)(v:List Ce × b8):∀(h:ul) (j:Nat),bS j (rx i v h)=if j=i then some v else bS j h
 | [],j=>by
  by_cases e:j=i
  ·subst e;simp[rx,bS]
  ·rw[j7 e];simp only[rx,bS];rw[show (j==i)=false from by simpa using e];rfl
 | (k,u)::r,j=>by
  unfold rx;by_cases hk:i=k
  ·subst hk;simp only[s9,g6,bS];by_cases e:j=i
   ·subst e;simp
   ·rw[j7 e,show (j==i)=false from by simpa using e];rfl
  ·rw[show (i==k)=false from by simpa using hk,f9];simp only[bS];rw[qA i v r j];by_cases e:j=k
   ·subst e;simp[Ne.symm hk]
   ·rw[show (j==k)=false from by simpa using e];simp
theorem Tl(f:Ce->Ce)(σ:St)(i:Nat):bS i (σ.map f).h=(bS i σ.h).map fun q=>(q.1.map f,q.2):=zP (List.map f) σ.h i
theorem Rel.wipeBox{y:Nat}(J:Rel P w g base σ a)(M:y<a.tmps.size)(h:Ext (some y) g g' w w')(V:∀b,w'.heap.size<=b->g'.prot b=0/\g'.owner b=none){cs:List Ce}{ds:b8}
  (W:afi P w' g' base y cs ds):Rel P w' g' base ⟨(σ.wipe y).r,(σ.wipe y).e,rx y (cs,ds) (σ.wipe y).h⟩ a:=by
 have hk:jr P base g g' w w' (fL y):=fun c x v hv=>h.vc J.base_le hv
 refine⟨fun i=>J.envMap hk rfl i,fun id a0 a2 hl=>?_,V,m8 J.base_le h.size,J.defers,h.low J (J.ne M),h.mine J (J.ne M)⟩;rw[qA] at hl;by_cases e:id=y
 ·rw[m6 e] at hl;injection hl with hl
  injection hl with h1 h2
  subst h1;subst h2;subst e;exact W
 ·rw[j7 e] at hl;refine J.boxMap hk hl fun cs ds Y=>?_
  obtain⟨k1,k2,k3,kl,a1,E,Z,k5⟩:=J.box id cs ds Y;have O:=aP Z;exact⟨h.θ id (by intro U;injection U with U;exact e U),h.owner _ O,h.prot _ O,h.heap _ O⟩
theorem Rel.wipeRow{J:Nat}(y:Rel P w g base σ a)(M:J<a.tmps.size)(h:Ext (some J) g g' w w')(U:g'.θ=g.θ)(W:∀b,w'.heap.size<=b->g'.prot b=0/\g'.owner b=none):Rel P w' g' base (σ.wipe J) a:=by
 have hk:jr P base g g' w w' (fL J):=fun c x v hv=>h.vc y.base_le hv
 refine⟨fun i=>y.envMap hk rfl i,fun id cs ds hl=>y.boxMap hk hl fun cs ds V=>?_,W,m8 y.base_le h.size,y.defers,h.low y (y.ne M),h.mine y (y.ne M)⟩;obtain⟨k1,k2,k3,kl,Z,E,Y,k5⟩:=y.box id cs ds V;have O:=aP Y;exact⟨by rw[U],h.owner _ O,h.prot _ O,h.heap _ O⟩
theorem gH(w:World)(o:Obj):(w.alloc o).heap[w.heap.size]?=some o:=by show (w.heap.push o)[w.heap.size]?=_;simp
theorem SK(y:Rel P w g base σ a)(d:Nat)(o:Obj):∀b,(w.alloc o).heap.size<=b->(oO g d w.heap.size).prot b=0/\(oO g d w.heap.size).owner b=none:=by
 intro b J;have M:w.heap.size+1<=b:=by simpa using J
 have:=y.fresh b (by omega);exact⟨this.1,by show (if b=w.heap.size then _ else _)=_;rw[j7 (by omega)];exact this.2⟩
theorem Ij(y:Rel P w g base σ a)(t:Tok)(e:TypeId)(n k p:Nat)(o:Obj):∀b,(w.alloc o).heap.size<=b->(ec g t e w.heap.size n k p).prot b=0/\(ec g t e w.heap.size n k p).owner b=none:=by
 intro b J;have M:w.heap.size+1<=b:=by simpa using J
 have:=y.fresh b (by omega);exact⟨by show (if b=w.heap.size then _ else _)=_;rw[j7 (by omega)];exact this.1,by show (if b=w.heap.size then _ else _)=_;rw[j7 (by omega)];exact this.2⟩
theorem jh(e:TypeId)(cs:Array Value):(newRow e cs).run P w=.ok ⟨w.heap.size,0,none⟩ (w.alloc (.cells cs e)):=by simp[newRow,newObj,Sem.run]
def Vl(P:Program)(base:Nat)(y:St)(o:Oper)(a:Act)(w:World):Prop:=
 ∃z w' g',((execOp a.eval o).run P w=.ok (.value z) w'\/((execOp a.eval o).run P w=.ok .skip w'/\z=undef))/\Rel P w' g' base y (a.put o.dst z)/\Below base w w'
def yA(P:Program)(base:Nat)(y:St)(o:Oper)(a:Act)(w:World):Prop:=
 ∃z w' g',((execOp a.eval o).run P w=.ok (.value z) w'\/((execOp a.eval o).run P w=.ok .skip w'/\z=undef))/\Rel P w' g' base y (a.put o.dst z)/\Below base w w'/\Below w.heap.size w w'
theorem yA.does{P:Program}{base:Nat}{y:St}{o:Oper}{a:Act}{w:World}(h:yA P base y o a w):Vl P base y o a w:=by obtain⟨z,w',g',h1,J,M,_⟩:=h;exact⟨z,w',g',h1,J,M⟩
theorem aed(J:Rel P w g base σ a){o:Oper}{y:St}(M:∀d,o.dst=some d->d<a.tmps.size)(h:sU P σ o=some (y,true)):Vl P base y o a w:=by
 unfold sU at h
 split at h
 ·rename_i v ok O;simp only[b7,j8] at h;obtain⟨rfl,rfl⟩:=h;obtain⟨z,h1,U⟩:=afH J O;have h1:=h1 w (.inl (Below.refl _ _));exact⟨z,w,g,.inl h1,J.put M U,Below.refl _ _⟩
 ·cases h
theorem vY{v:T}{cs:List Ce}{ds:b8}(h:v.cells=some (cs,ds)):ds.length=cs.length:=by
 obtain⟨sh,p⟩:=v;unfold T.cells at h;simp only at h
 split at h
 ·rename_i x;cases y:(x==Ce.any) with
  | true=>rw[y] at h;cases h
  | false=>rw[y] at h;simp only[f9,b7,j8] at h;obtain⟨rfl,rfl⟩:=h;rfl
 ·rename_i xs;cases y:xs.contains Ce.any with
  | true=>rw[y] at h;cases h
  | false=>rw[y] at h;simp only[f9,b7,j8] at h;obtain⟨rfl,rfl⟩:=h;exact fB _ _ _
 ·cases h
theorem to{v:T}{u:Value}{cs:List Ce}{ds:b8}(h:v.cells=some (cs,ds))(hv:VT P w g base v u):VCs P w g base cs ds u.cells/\(∀c∈cs,c≠.any):=by
 obtain⟨sh,p⟩:=v;cases sh with
 | tup xs=>cases h
 | one x=>cases x with
  | c x =>
   simp only[T.cells] at h;cases y:(x==Ce.any) with
   | true=>rw[y] at h;cases h
   | false =>
    rw[y] at h;simp only[f9,b7,j8] at h;obtain⟨rfl,rfl⟩:=h;have hv:VC P w g base x (gd p 0) u:=hv;have y:x≠.any:=by simpa using y
    have W:=hv.flat y;have hc:u.cells = #[u]:=by cases u <;> simp_all [Fr,Value.cells]
    refine⟨⟨by rw[hc];rfl,fun j c J=>?_⟩,by simpa using y⟩;cases j with
    | succ j=>simp at J
    | zero =>simp only[p9,b7] at J;subst J;exact⟨u,by rw[hc];rfl,hv⟩
  | agg xs =>
   simp only[T.cells] at h;cases y:xs.contains Ce.any with
   | true=>rw[y] at h;cases h
   | false =>
    rw[y] at h;simp only[f9,b7,j8] at h;obtain⟨rfl,rfl⟩:=h;obtain⟨V,rfl,h1,O⟩:=hv;refine⟨⟨h1,fun j c J=>?_⟩,fun c hc e=>?_⟩
    ·obtain⟨z,M,U⟩:=O j c J;exact⟨z,M,by rw[fY _ _ _ _ (g7.1 J).1,m0];exact U⟩
    ·subst e;have:=A3.2 hc;rw[this] at y;cases y
theorem Yf(y:Rel P w g base σ a){o:Oper}{V:St}{d:Nat}{t:TypeId}{x:Operand}(ho:o.op=.box t x)(J:o.dst=some d)(U:∀d,o.dst=some d->d<a.tmps.size)(h:agG σ d x=some (V,true)):yA P base V o a w:=by
 unfold agG at h;have O:=acK (g:=g) (w:=w) d (.cells (a.eval x).cells t);have hF:=SK y d (.cells (a.eval x).cells t);have hk:jr P base g _ w _ (fL d):=fun c x v hv=>O.vc y.base_le hv
 cases hc:(opd (σ.wipe d) x).cells with
 | none=>rw[hc] at h;cases h
 | some q =>
  obtain⟨cs,ds⟩:=q;rw[hc] at h;simp only[b7,j8,E2] at h;subst h;have Z:Rel P (w.alloc (.cells (a.eval x).cells t)) (oO g d w.heap.size) base ⟨(σ.wipe d).r,(σ.wipe d).e,[]⟩ a:=
   ⟨fun i=>y.envMap hk rfl i,fun id cs ds hl=>by simp[bS] at hl,hF,m8 y.base_le O.size,y.defers,O.low y (y.ne (U d J)),O.mine y (y.ne (U d J))⟩
  have a1:VT P (w.alloc (.cells (a.eval x).cells t)) (oO g d w.heap.size) base (opd (σ.wipe d) x) (a.eval x):=by have:=dO Z x;exact this
  obtain⟨a0,_⟩:=to hc a1;have W:afi P (w.alloc (.cells (a.eval x).cells t)) (oO g d w.heap.size) base d cs ds:=by have M:(oO g d w.heap.size).θ d=w.heap.size:=m6 rfl;refine⟨by rw[M];exact y.base_le,by rw[M];exact m6 rfl,by rw[M];exact (y.fresh _ (i8 _)).1,vY hc,(a.eval x).cells,t,by rw[M];exact gH w _,a0⟩
  have Y:=y.wipeBox (U d J) O hF W;refine⟨.pointer (some ⟨w.heap.size,0,none⟩),_,_,.inl ?_,Y.put U (t:=.c (.ptr d 0) D0) ?_ |> fun h=>by rw[J] at h ⊢;exact h,(Below.refl _ _).alloc y.base_le _,(Below.refl _ _).alloc (i8 _) _⟩
  ·simp only[execOp,ho,Instr.box,newVar,l8,jh,i5,m9]
  ·show Value.pointer _=Value.pointer (some ⟨(oO g d w.heap.size).θ d,0,none⟩);rw[show (oO g d w.heap.size).θ d=w.heap.size from m6 rfl]
theorem Fe:∀ {row:List S} {J:List Value},ct P row J=true->J.length=row.length/\∀(j:Nat) (s:S),row[j]?=some s->∃u,J[j]?=some u/\(∀(w:World) (prot:Nat->Nat),VD P w prot s (mz s) u)/\(∀e,s=.sl e->u=.slice none 0 0/\∃r,br P e=some r)
 | [],[],_=>⟨rfl,fun j s h=>by simp at h⟩
 | [],_::_,h=>by simp[ct] at h
 | s::r,[],h=>by cases s <;> simp[ct] at h
 | s::r,v::J,h=>by
  have key:ct P r J=true/\(∀(w:World) (prot:Nat->Nat),VD P w prot s (mz s) v)/\(∀e,s=.sl e->v=.slice none 0 0/\∃r,br P e=some r):=by
   cases s with
   | int k =>cases v <;> simp only[ct,a9,u7,reduceCtorEq,y4] at h;obtain⟨⟨rfl,rfl⟩,h⟩:=h;exact⟨h,fun w prot=>VD.int _ (.i 0),fun e y=>by cases y⟩
   | bool =>cases v <;> simp only[ct,a9,u7,reduceCtorEq,y4,o8] at h;obtain⟨rfl,h⟩:=h;exact⟨h,fun w prot=>VD.bool (.b false),fun e y=>by cases y⟩
   | str =>
    cases v <;> simp only[ct,a9,u7,reduceCtorEq,y4] at h;rename_i b;obtain⟨O,h⟩:=h;have Z:b=bsv []:=by
     have:b.data.toList = []:=by simpa using O
     rw[<- uK b];unfold qk;rw[this]
    subst Z;exact⟨h,fun w prot=>VD.str (.s []),fun e y=>by cases y⟩
   | sl e =>
    cases v with
    | slice A n c =>
     cases A with
     | some A=>simp[ct] at h
     | none =>
      cases n with
      | succ n=>simp[ct] at h
      | zero =>
       cases c with
       | succ c=>simp[ct] at h
       | zero =>simp only[ct,a9] at h;obtain⟨O,h⟩:=h;obtain⟨M,V⟩:=C8.1 O;refine⟨h,fun w prot=>?_,fun e' y=>by cases y;exact⟨rfl,M,V⟩⟩;exact VD.sl e (.l []) none 0 M (fun _ _=>undef) V (by simp[D.rows]) (by omega) (fun i j hi=>by simp[D.rows] at hi) (fun i j s hi=>by simp[D.rows] at hi)
    | _=>simp[ct] at h
   | opq=>cases v <;> simp[ct] at h
  obtain⟨h1,Y,h3⟩:=key;obtain⟨W,k2⟩:=Fe h1;refine⟨by simp[W],fun j s' U=>?_⟩;cases j with
  | zero =>simp only[p9,b7] at U;subst U;exact⟨v,rfl,Y,h3⟩
  | succ j=>exact k2 j s' (by simpa using U)
theorem acJ:∀ {row:List S} {y:List Value},ct P row y=true->∀j:Nat,row[j]?≠some .opq
 | [],_,_,j=>by simp
 | s::r,[],h,j=>by cases s <;> simp[ct] at h
 | s::r,v::y,h,j=>by
  have key:ct P r y=true/\s≠.opq:=by
   cases s <;> cases v <;> simp_all [ct]
   all_goals (rename_i A n c;cases A <;> cases n <;> cases c <;> simp_all [ct])
  cases j with
  | zero=>simpa using key.2
  | succ j=>simpa using acJ key.1 j
theorem Sy(f:S->Nat)(d:Nat):∀(row:List S) (i j:Nat) c,(pu f d i row)[j]?=some c->∃s,row[j]?=some s/\((∃e n,s=.sl e/\c=.own (d,n) true e)\/c=.d s)
 | [],i,j,c,h=>by simp[pu] at h
 | s::r,i,j,c,h=>by
  cases j with
  | zero =>
   simp only[pu,p9,b7] at h;subst h;refine⟨s,rfl,?_⟩;cases s with
   | sl e=>exact .inl ⟨e,_,rfl,rfl⟩
   | _=>exact .inr rfl
  | succ j =>obtain⟨s',h1,y⟩:=Sy f d r (i+1) j c (by simpa [pu] using h);exact⟨s',by simpa using h1,y⟩
theorem pF(f:S->Nat)(d:Nat):∀(row:List S) (i:Nat),(pu f d i row).length=row.length
 | [],_=>rfl
 | s::r,i=>by rw[pu,D8,D8,pF f d r (i+1)]
theorem Iy(row:List S)(j:Nat)(s:S)(h:row[j]?=some s):gd (row.map mz) j=mz s:=by simp[gd,g4,w9,h]
theorem Yz{f:S->Nat}{row:List S}{J:Array Value}(h:ct P row J.toList=true)(d i:Nat)(W:∀i,g.len (d,i)=0):VCs P w g base (pu f d i row) (row.map mz) J:=by
 obtain⟨h1,O⟩:=Fe h;refine⟨by rw[pF];simpa using h1,fun j c Y=>?_⟩;obtain⟨s,y,hc⟩:=Sy f d row i j c Y;obtain⟨u,V,hv,M⟩:=O j s y;refine⟨u,by simpa using V,?_⟩;rw[Iy row j s y];rcases hc with⟨e,_,rfl,rfl⟩ | rfl
 ·obtain⟨rfl,r,U⟩:=M e rfl;exact⟨r,U,.inl ⟨rfl,W _,none,rfl⟩⟩
 ·exact hv w g.prot
theorem qd{t:TypeId}{row:List S}(h:jV P t row=true):∃i v,P.info? t=some i/\i.zero=some v/\ct P row v.cells.toList=true:=by
 unfold jV at h
 split at h
 ·rename_i i hi
  split at h
  ·rename_i v hv;exact⟨i,v,hi,hv,h⟩
  ·cases h
 ·cases h
theorem zq{t:TypeId}{i:TypeInfo}{v:Value}(hi:P.info? t=some i)(hz:i.zero=some v)(w:World):(zeroValue t).run P w=.ok v w:=by simp[zeroValue,typeInfo,program,hi,hz,Sem.run]
def amI(P:Program)(base:Nat)(y:St)(o:Oper)(a:Act)(w:World):Prop:=
 ∃z w' g',(execOp a.eval o).run P w=.ok (.value z) w'/\Rel P w' g' base y (a.put o.dst z)/\Below base w w'/\Below w.heap.size w w'/\z=.pointer (some ⟨w.heap.size,0,none⟩)
theorem oE(J:Rel P w g base σ a){o:Oper}{O:St}{d:Nat}{b:Bool}{t:TypeId}(Z:o.op=.alloc t)(M:o.dst=some d)(W:∀d,o.dst=some d->d<a.tmps.size)(h:pK P σ d b t=some (O,true)):amI P base O o a w:=by
 unfold pK at h
 split at h
 ·rename_i row a0;cases hz:jV P t row with
  | false=>rw[hz] at h;cases h
  | true =>
   rw[hz] at h;simp only[n4,f9,b7,j8,E2] at h;subst h;obtain⟨ti,v,hi,hv,hm⟩:=qd hz;have Y:=acK (g:=g) (w:=w) d (.cells v.cells t);have hF:=SK J d (.cells v.cells t);have y:(oO g d w.heap.size).θ d=w.heap.size:=m6 rfl;have U:afi P (w.alloc (.cells v.cells t)) (oO g d w.heap.size) base d (pu (VR P b) d 0 row) (row.map mz):=
    ⟨by rw[y];exact J.base_le,by rw[y];exact m6 rfl,by rw[y];exact (J.fresh _ (i8 _)).1,by simp[pF],v.cells,t,by rw[y];exact gH w _,Yz hm d 0 (fun i=>m6 rfl)⟩
   have V:=J.wipeBox (W d M) Y hF U;refine⟨.pointer (some ⟨w.heap.size,0,none⟩),_,_,?_,V.put W (t:=.c (.ptr d 0) D0) ?_ |> fun h=>by rw[M] at h ⊢;exact h,(Below.refl _ _).alloc J.base_le _,(Below.refl _ _).alloc (i8 _) _,rfl⟩
   ·simp only[execOp,Z,Instr.alloc,newVar,l8,zq hi hv,jh,i5,m9]
   ·show Value.pointer _=Value.pointer (some ⟨(oO g d w.heap.size).θ d,0,none⟩);rw[y]
 ·cases h
theorem Zl(V:Rel P w g base σ a){o:Oper}{y:St}{d:Nat}{b:Bool}{t:TypeId}(O:o.op=.alloc t)(J:o.dst=some d)(M:∀d,o.dst=some d->d<a.tmps.size)(h:pK P σ d b t=some (y,true)):Vl P base y o a w:=by obtain⟨z,w',g',h1,U,W,_⟩:=oE V O J M h;exact⟨z,w',g',.inl h1,U,W⟩
theorem Yw(V:Rel P w g base σ a){o:Oper}{J:St}{d:Nat}(W:o.op=.assign (.const (.slice none 0 0)))(y:o.dst=some d)(U:∀d,o.dst=some d->d<a.tmps.size){ix:Nat}(h:afF P σ d ix o.type=some (J,true)):yA P base J o a w:=by
 unfold afF at h
 split at h
 ·rename_i e Y;cases hz:(br P e).isSome with
  | false=>rw[hz] at h;cases h
  | true =>rw[hz] at h;simp only[g6,b7,j8,E2] at h;subst h;obtain⟨row,M⟩:=C8.1 hz;have O:=V.wipeRow (U d y) (RK g d w) rfl V.fresh;refine⟨.slice none 0 0,w,Zt g d,.inl (by simp[execOp,W,Act.eval]),O.put U (t:=.c (.own (d,ix) true e) (.l [])) ?_ |> fun h=>by rw[y] at h ⊢;exact h,Below.refl _ _,Below.refl _ _⟩;exact⟨row,M,.inl ⟨rfl,m6 rfl,none,rfl⟩⟩
 ·cases h
end
section
variable [Low] {P:Program} {w w':World} {g g':G} {base:Nat} {σ:St} {a:Act}
def bF(g:G)(ts:List Tok):G:=
 { g with prot:=fun b=>match g.owner b with | some (.inr t)=>if ts.contains t=true then (if g.ρ t=b then max (g.prot b) (g.len t*g.wid t) else if bq t=true then max (g.prot b) (g.need b) else g.prot b) else g.prot b | _=>g.prot b }
theorem Lv(g:G)(ts:List Tok)(b:Nat):g.prot b<=(bF g ts).prot b:=by
 show _<=(match g.owner b with | some (.inr t)=>if ts.contains t=true then (if g.ρ t=b then max (g.prot b) (g.len t*g.wid t) else if bq t=true then max (g.prot b) (g.need b) else g.prot b) else g.prot b | _=>g.prot b)
 split
 ·split
  ·split
   ·exact Nat.le_max_left _ _
   ·split
    ·exact Nat.le_max_left _ _
    ·exact i8 _
  ·exact i8 _
 ·exact i8 _
theorem Ib{ts:List Tok}{t:Tok}{b:Nat}(M:g.owner b=some (.inr t))(y:b≠g.ρ t)(J:bq t=true)(hc:ts.contains t=true):g.need b<=(bF g ts).prot b:=by show _<=(match g.owner b with | some (.inr t)=>if ts.contains t=true then (if g.ρ t=b then max (g.prot b) (g.len t*g.wid t) else if bq t=true then max (g.prot b) (g.need b) else g.prot b) else g.prot b | _=>g.prot b);rw[M];simp only[hc,if_true,j7 (Ne.symm y),J];exact N1 _ _
theorem SE{ts:List Tok}{t:Tok}{b:Nat}(y:g.owner b=some (.inr t))(hc:ts.contains t=false):(bF g ts).prot b=g.prot b:=by show (match g.owner b with | some (.inr t)=>if ts.contains t=true then (if g.ρ t=b then max (g.prot b) (g.len t*g.wid t) else if bq t=true then max (g.prot b) (g.need b) else g.prot b) else g.prot b | _=>g.prot b)=_;rw[y];show (if ts.contains t=true then _ else _)=_;rw[hc,j7 (by simp)]
theorem Ln{ts:List Tok}{t:Tok}(y:g.owner (g.ρ t)=some (.inr t)):(bF g ts).prot (g.ρ t)=if ts.contains t=true then max (g.prot (g.ρ t)) (g.len t*g.wid t) else g.prot (g.ρ t):=by show (match g.owner (g.ρ t) with | some (.inr u)=>if ts.contains u=true then (if g.ρ u=g.ρ t then max (g.prot (g.ρ t)) (g.len u*g.wid u) else if bq u=true then max (g.prot (g.ρ t)) (g.need (g.ρ t)) else g.prot (g.ρ t)) else g.prot (g.ρ t) | _=>g.prot (g.ρ t))=_;rw[y];simp
theorem FY{ts:List Tok}{b id:Nat}(y:g.owner b=some (.inl id)):(bF g ts).prot b=g.prot b:=by show (match g.owner b with | some (.inr t)=>if ts.contains t=true then (if g.ρ t=b then max (g.prot b) (g.len t*g.wid t) else if bq t=true then max (g.prot b) (g.need b) else g.prot b) else g.prot b | _=>g.prot b)=_;rw[y]
theorem HE{ts:List Tok}{b:Nat}(y:g.owner b=none):(bF g ts).prot b=g.prot b:=by show (match g.owner b with | some (.inr t)=>if ts.contains t=true then (if g.ρ t=b then max (g.prot b) (g.len t*g.wid t) else if bq t=true then max (g.prot b) (g.need b) else g.prot b) else g.prot b | _=>g.prot b)=_;rw[y]
theorem iu{ts:List Tok}{s:S}{x:D}{v:Value}(h:VD P w g.prot s x v):VD P w (bF g ts).prot s x v:=
 h.mono fun b o u y hc=>⟨hc,B0 y (Lv g ts b)⟩
theorem So{ts:List Tok}{t:Tok}{y:Bool}{i j:Nat}{s:S}{d:D}{u:Value}(h:cL P base w g t y i j s d u):cL P base w (bF g ts) t (y && !ts.contains t) i j s d u:=by
 cases hc:ts.contains t with
 | false =>rw[show (y && !false)=y from by cases y <;> rfl];refine h.mono rfl (fun b o z h1 O=>⟨O,B0 h1 (Lv g ts b)⟩) (fun _ b o U J M V=>⟨V,U,J,M,rfl,rfl,fun e=>by rw[SE J hc];exact e⟩)
 | true =>
  rw[show (y && !true)=false from by cases y <;> rfl];unfold cL at h ⊢;rw[E4,j7 (by simp)]
  split at h
  ·rename_i Y;exact TR.vd h fun b π n hl=>by rw[<- hl.2.2.2.2.1];exact Ib hl.2.1 hl.2.2.1 (by cases W:bq t <;> simp_all) hc
  ·exact iu h
theorem ER{ts:List Tok}{t:Tok}{y:Bool}{e:TypeId}{row:List S}{rows:List b8}{v:Value}(h:dX P w g base t y e row rows v):dX P w (bF g ts) base t (y && !ts.contains t) e row rows v:=by
 rcases h with h | ⟨cap,arr,E,h1,h2,h3,h4,h5,h6,h7,h8,h9,h10,h11⟩
 ·exact .inl h
 ·refine .inr ⟨cap,arr,E,h1,h2,h3,h4,h5,h6,h7,h8,h9,?_,fun i j s hi O=>?_⟩
  ·show (bF g ts).prot (g.ρ t)=if (y && !ts.contains t)=true then 0 else g.len t*g.wid t
   rw[Ln h5,h10];cases hc:ts.contains t <;> cases y <;> simp
  ·obtain⟨u,J,M⟩:=h11 i j s hi O;exact⟨u,J,So M⟩
theorem zS(g:G)(ts:List Tok)(w:World):jr P base g (bF g ts) w w (fG ts):=by
 intro c x v hv;cases c with
 | any=>trivial
 | d s=>exact iu hv
 | kb b=>exact hv
 | own t xm e =>obtain⟨row,hr,hv⟩:=hv;exact⟨row,hr,ER hv⟩
 | ptr id off=>exact hv
 | eptr tk e off =>
  cases tk with
  | none =>obtain⟨row,b,o,h1,J,y,W⟩:=hv;refine⟨row,b,o,h1,J,y,fun j s M=>?_⟩;obtain⟨u,U,V,k3⟩:=W j s M;exact⟨u,U,B0 V (Lv g ts b),iu k3⟩
  | some t =>
   obtain⟨row,h1,J,y,u,W⟩:=hv;change VC P w (bF g ts) base (.eptr (bif ts.contains t then none else some t) e off) x v;cases hc:ts.contains t with
   | false =>have:=ER (ts:=ts) W;rw[hc] at this;exact⟨row,h1,J,y,u,this⟩
   | true =>
    rcases W with⟨h0,_⟩ | ⟨cap,Y,E,U,V,k3,k4,k5,k6,k7,k8,k9,k10,k11⟩
    ·rw[h0] at y;simp at y
    ·refine⟨row,g.ρ t,0,h1,by rw[m0];exact J,y,fun j s M=>?_⟩;obtain⟨u',j1,j2⟩:=k11 _ j s y M;refine⟨u',by simp only[World.cell?,k6,m0];exact j1,?_,by have:=So (ts:=ts) j2;rw[hc] at this;exact this.vd'⟩;rw[Ln k5,hc,m6 rfl,m0];have hj:=(g7.1 M).1;have:eIx x*row.length+row.length<=(eK x).length*row.length:=by rw[<- E3];exact z7 _ y
     rw[k8] at this;rw[<- k9];exact B0 (by omega) (N1 _ _)
 | inn t e off ei =>
  change VC P w (bF g ts) base (bif ts.contains t then .any else .inn t e off ei) x v;cases hc:ts.contains t with
  | true=>trivial
  | false =>refine oG hv rfl (fun o _ ho=>ho) (fun Z=>?_);have:=ER (ts:=ts) Z;rw[hc] at this;exact this
 | cptr cells off =>obtain⟨b,o,h1,J,y⟩:=hv;refine⟨b,o,h1,J,fun j s M=>?_⟩;obtain⟨u,U,V⟩:=y j s M;exact⟨u,U,iu V⟩
 | fn f caps =>
  obtain⟨Y,h1,J,y⟩:=hv;refine⟨Y,h1,J,fun j c hc=>?_⟩;obtain⟨u,Z,O⟩:=y j c hc;refine⟨u,Z,?_⟩;cases c with
  | d s=>exact iu O
  | ptr id off=>exact O
  | cptr cells off =>obtain⟨b,o,h1,J,y⟩:=O;refine⟨b,o,h1,J,fun j s M=>?_⟩;obtain⟨u,U,V⟩:=y j s M;exact⟨u,U,iu V⟩
theorem Rel.seal(y:Rel P w g base σ a)(ts:List Tok):Rel P w (bF g ts) base (σ.seal ts) a:=by
 have hk:jr P base g (bF g ts) w w (fG ts):=zS g ts w;refine⟨fun i=>y.envMap hk rfl i,fun id cs ds hl=>y.boxMap hk hl fun cs ds O=>?_,fun b J=>?_,y.base_le,y.defers,⟨y.low.1,fun b J=>?_,y.low.2.2⟩,y.mine⟩
 ·obtain⟨V,M,W,Y,U,E,k4,Z⟩:=y.box id cs ds O;exact⟨rfl,rfl,FY M,rfl⟩
 ·have:=y.fresh b J;exact⟨by rw[HE this.2];exact this.1,this.2⟩
 ·have:=y.low.2.1 b J;exact⟨this.1,by rw[HE this.1];exact this.2.1,this.2.2⟩
theorem UY{ts:List Tok}{c:Ce}{s:S}{x:D}{v:Value}(hv:VC P w g base c x v)(y:c.toS=some s)(O:∀t J e,c=.own t J e->ts.contains t=true):VD P w (bF g ts).prot s (c.toD x) v:=by
 cases c with
 | d s' =>simp only[Ce.toS,b7] at y;subst y;exact iu hv
 | kb b =>simp only[Ce.toS,b7] at y;subst y;have hv:v=.bool b:=hv;subst hv;exact VD.bool (.b b)
 | own t J e =>
  simp only[Ce.toS,b7] at y;subst y;obtain⟨row,Y,hv⟩:=hv;refine afs Y hv (Lv g ts) (fun M=>?_) (fun a0 b V U=>?_)
  rotate_left
  ·exact Ib V U (by cases W:bq t <;> simp_all) (O t J e rfl)
  rcases hv with⟨Z,_⟩ | ⟨cap,arr,E,h1,h2,h3,h4,h5,rest⟩
  ·exact absurd Z M
  ·rw[Ln h5,O t J e rfl,m6 rfl];exact N1 _ _
 | _=>cases y
theorem Ez:∀ {cs:List Ce} {y:List S},FA cs=some y->y.length=cs.length/\∀(j:Nat) s,y[j]?=some s->∃c,cs[j]?=some c/\c.toS=some s
 | [],y,h=>by simp only[FA,b7] at h;subst h;exact⟨rfl,fun j s h=>by simp at h⟩
 | c::cs,y,h=>by
  unfold FA at h
  split at h
  ·rename_i d ds h1 U;injection h with h
   subst h;obtain⟨M,O⟩:=Ez U;refine⟨by simp[M],fun j s J=>?_⟩;cases j with
   | zero =>simp only[p9,b7] at J;subst J;exact⟨c,rfl,h1⟩
   | succ j=>exact O j s (by simpa using J)
  ·cases h
theorem MG:∀(cs:List Ce) (ds:b8) (j:Nat) c,cs[j]?=some c->gd (oy cs ds) j=c.toD (gd ds j)
 | [],ds,j,c,h=>by simp at h
 | c0::cs,ds,0,c,h=>by simp only[p9,b7] at h;subst h;rfl
 | c0::cs,ds,j+1,c,h=>by rw[oy,ap,MG cs ds.tail j c (by simpa using h),fq]
theorem Du:∀ {cs:List Ce} {t:Tok} {y:Bool} {e:TypeId},Ce.own t y e∈cs->t∈toks cs
 | [],_,_,_,h=>by simp at h
 | c::cs,t,y,e,h=>by
  rcases B5.1 h with h | h
  ·subst h;simp[toks]
  ·have:=Du h;cases c <;> simp[toks,this]
theorem aam{ts:List Tok}{cs:List Ce}{ds:b8}{J:List S}{y:Array Value}(hv:VCs P w g base cs ds y)(Y:FA cs=some J)(W:∀t∈toks cs,ts.contains t=true) :
  y.size=J.length/\∀(j:Nat) s,J[j]?=some s->∃u,y[j]?=some u/\VD P w (bF g ts).prot s (gd (oy cs ds) j) u:=by
 obtain⟨h1,U⟩:=Ez Y;refine⟨by rw[hv.1,h1],fun j s Z=>?_⟩;obtain⟨c,hc,O⟩:=U j s Z;obtain⟨u,V,M⟩:=hv.2 j c hc;refine⟨u,V,?_⟩;rw[MG cs ds j c hc];exact UY M O fun t xm e he=>W t (Du (he▸A2 hc))
theorem Rz{ts:List Tok}{c:Ce}{s:S}{x:D}{v:Value}(hv:VC P w g base c x v)(y:c.aS=some s)(Z:∀t∈ry [c],ts.contains t=true):VD P w (bF g ts).prot s (c.aD x) v:=by
 cases c with
 | inn t e off ei =>
  simp only[Ce.aS,b7] at y;subst y;have hc:=Z t (by simp[ry]);obtain⟨row,h1,⟨u,h5⟩,⟨O,W,V,Y,a0,E,J,h7,h8⟩ | ⟨O,W,V⟩⟩:=hv
  rotate_left
  ·subst W;show VD P w (bF g ts).prot (.sl ei) (aea off x) v;unfold aea;rw[show Nat.ble kt off=true from Nat.ble_eq_true_of_le O,g6];refine V.mono fun b o z M hz=>⟨hz,?_⟩
   by_cases hb:b=g.ρ t
   ·subst hb;rw[m6 rfl] at M;rcases h5 with⟨hr,_⟩ | ⟨_,a0,E,_,_,_,_,k5,k6,_,k8,k9,_⟩
    ·rw[hr] at M;simp at M
    ·rw[Ln k5,hc,m6 rfl,<- k8,<- k9];exact B0 M (N1 _ _)
   ·rw[j7 hb] at M;omega
  have a1:aea off x=gd ((eK x).getD (eIx x) []) off:=by unfold aea;rw[show Nat.ble kt off=false from by cases hq:Nat.ble kt off with | false=>rfl | true=>have:=y9 hq;omega,f9];rfl
  show VD P w (bF g ts).prot (.sl ei) (aea off x) v;rw[a1];rcases h5 with⟨O,_⟩ | ⟨cap,arr',E',k1,k2,k3,k4,k5,k6,k7,k8,k9,k10,k11⟩
  ·rw[O] at Y;simp at Y
  ·rw[k6] at J;injection J with J
   injection J with J
   subst J;obtain⟨z,U,z2⟩:=k11 _ off _ Y W;rw[h7] at U;injection U with U
   subst U;exact TR.vd (z2.tr V) fun b π n hl=>by rw[<- hl.2.2.2.2.1];exact Ib hl.2.1 hl.2.2.1 V hc
 | d s'=>exact UY hv y (fun t xm e h=>by cases h)
 | kb b=>exact UY hv y (fun t xm e h=>by cases h)
 | own t xm e=>exact UY hv y (fun t' a2 e' h=>by cases h;exact Z t (by simp[ry]))
 | _=>cases y
theorem ada:∀ {cs:List Ce} {y:List S},aSs cs=some y->y.length=cs.length/\∀(j:Nat) s,y[j]?=some s->∃c,cs[j]?=some c/\c.aS=some s
 | [],y,h=>by simp only[aSs,b7] at h;subst h;exact⟨rfl,fun j s h=>by simp at h⟩
 | c::cs,y,h=>by
  unfold aSs at h
  split at h
  ·rename_i d ds h1 U;injection h with h
   subst h;obtain⟨M,O⟩:=ada U;refine⟨by simp[M],fun j s J=>?_⟩;cases j with
   | zero =>simp only[p9,b7] at J;subst J;exact⟨c,rfl,h1⟩
   | succ j=>exact O j s (by simpa using J)
  ·cases h
theorem acF:∀(cs:List Ce) (ds:b8) (j:Nat) c,cs[j]?=some c->gd (aDs cs ds) j=c.aD (gd ds j)
 | [],ds,j,c,h=>by simp at h
 | c0::cs,ds,0,c,h=>by simp only[p9,b7] at h;subst h;rfl
 | c0::cs,ds,j+1,c,h=>by rw[aDs,ap,acF cs ds.tail j c (by simpa using h),fq]
theorem Sp:∀ {cs:List Ce} {c:Ce} {t:Tok},c∈cs->t∈ry [c]->t∈ry cs
 | [],_,_,h,_=>by simp at h
 | c::cs,c',t,h,ht=>by
  rcases B5.1 h with h | h
  ·subst h;cases c' <;> simp[ry] at ht ⊢
   ·exact .inl ht
   ·exact .inl ht
  ·have:=Sp h ht;cases c <;> simp[ry,this]
theorem acd{ts:List Tok}{cs:List Ce}{ds:b8}{J:List S}{y:Array Value}(hv:VCs P w g base cs ds y)(Y:aSs cs=some J)(W:∀t∈ry cs,ts.contains t=true) :
  y.size=J.length/\∀(j:Nat) s,J[j]?=some s->∃u,y[j]?=some u/\VD P w (bF g ts).prot s (gd (aDs cs ds) j) u:=by
 obtain⟨h1,U⟩:=ada Y;refine⟨by rw[hv.1,h1],fun j s Z=>?_⟩;obtain⟨c,hc,O⟩:=U j s Z;obtain⟨u,V,M⟩:=hv.2 j c hc;refine⟨u,V,?_⟩;rw[acF cs ds j c hc];exact Rz M O fun t he=>W t (Sp (A2 hc) he)
theorem LK(W:Rel P w g base σ a){row:List S}{ts:List Tok}:∀ {y:List (Nat × Operand)} {k:Nat} {rows:List b8} {O:List Tok},Ea σ row y k=some (rows,O)->(∀t∈O,ts.contains t=true) ->
  ∃U:List Value,y.map (fun p=>(p.1,a.eval p.2))=(U.zipIdx k).map (fun x=>(x.2,x.1))/\U.length=y.length/\rows.length=y.length/\(∀v∈U,v.cells.size=row.length) /\
   ∀(i:Nat) v (j:Nat) s,U[i]?=some v->row[j]?=some s->∃u,v.cells[j]?=some u/\VD P w (bF g ts).prot s (gd (rows.getD i []) j) u
 | [],k,rows,O,h,_=>by simp only[Ea,b7,j8] at h;obtain⟨rfl,rfl⟩:=h;exact⟨[],rfl,rfl,rfl,fun v hv=>by simp at hv,fun i v j s hi=>by simp at hi⟩
 | (i,x)::r,k,rows,O,h,ht=>by
  unfold Ea at h;cases J:(i==k) with
  | false=>rw[J] at h;cases h
  | true =>
   rw[J,g6] at h;have J:i=k:=by simpa using J
   subst J
   split at h
   ·rename_i cs ds a0 a1 h1 h2;cases M:(FA cs==some row) with
    | false=>rw[M] at h;cases h
    | true =>
     rw[M] at h;have M:FA cs=some row:=by simpa using M
     simp only[g6,b7,j8] at h;obtain⟨rfl,rfl⟩:=h;obtain⟨U,k1,k2,k3,k4,k5⟩:=LK W h2 (fun t V=>ht t (n3.2 (.inr V)));obtain⟨Y,_⟩:=to h1 (dO W x);obtain⟨m1,m2⟩:=aam Y M (fun t V=>ht t (n3.2 (.inl V)));refine⟨a.eval x::U,by simp[k1],by simp[k2],by simp[k3],fun v hv=>?_,fun i v j s hi Z=>?_⟩
     ·rcases B5.1 hv with rfl | hv
      ·exact m1
      ·exact k4 v hv
     ·cases i with
      | zero =>simp only[p9,b7] at hi;subst hi;exact m2 j s Z
      | succ i=>exact k5 i v j s (by simpa using hi) Z
   ·cases h
theorem VD.ext{d:Option Nat}(h:Ext d g g' w w'){s:S}{x:D}{v:Value}(hv:VD P w g.prot s x v):VD P w' g'.prot s x v:=h.vd hv
theorem LP{w:World}(M:Rel P w g base σ a){d:Nat}(J:d<a.tmps.size){e:TypeId}{row:List S}{rows:List b8}{y:Array Value}(O:br P e=some row)(V:y.size=rows.length*row.length){ix:Nat}
  (U:rows.length<=9223372036854775807) (hv:∀(i j:Nat) s,i<rows.length->row[j]?=some s->∃u,y[i*row.length+j]?=some u/\cL P base (w.alloc (.cells y e)) (ec g (d,ix) e w.heap.size rows.length row.length 0) (d,ix) true i j s (gd (rows.getD i []) j) u) :
  Rel P (w.alloc (.cells y e)) (ec g (d,ix) e w.heap.size rows.length row.length 0) base (σ.wipe d) a /\
  VT P (w.alloc (.cells y e)) (ec g (d,ix) e w.heap.size rows.length row.length 0) base (.c (.own (d,ix) true e) (.l rows)) (.slice (some ⟨w.heap.size,0,none⟩) rows.length rows.length):=by
 have W:=Lz (g:=g) (w:=w) (d,ix) e rows.length row.length 0 (.cells y e);refine⟨M.wipeRow J W rfl (Ij M _ _ _ _ _ _),row,O,?_⟩;have e1:(ec g (d,ix) e w.heap.size rows.length row.length 0).ρ (d,ix)=w.heap.size:=m6 rfl;have e2:(ec g (d,ix) e w.heap.size rows.length row.length 0).len (d,ix)=rows.length:=m6 rfl;have e3:(ec g (d,ix) e w.heap.size rows.length row.length 0).wid (d,ix)=row.length:=m6 rfl;have e4:(ec g (d,ix) e w.heap.size rows.length row.length 0).prot w.heap.size=0:=m6 rfl;have e5:(ec g (d,ix) e w.heap.size rows.length row.length 0).owner w.heap.size=some (.inr (d,ix)):=m6 rfl;have Z:(ec g (d,ix) e w.heap.size rows.length row.length 0).ety (d,ix)=e:=m6 rfl;refine .inr ⟨rows.length,y,e,by rw[e1];rfl,i8 _,⟨U,rfl,Z.symm⟩,by rw[e1];exact M.base_le,by rw[e1];exact e5,by rw[e1];exact gH w _,V,e2.symm,e3.symm,by rw[e1];exact e4,fun i j s hi Y=>?_⟩;exact hv i j s hi Y
theorem JQ{w:World}{d:Nat}{e:TypeId}{rows:List b8}{row:List S}{J:Array Value}{ix i j:Nat}{s:S}{x:D}{u:Value}(h:VD P w g.prot s x u)(y:bq (d,ix)=false\/s.flat=true\/x.rows = []/\∃A O,s=.sl O/\(br P O).isSome=true/\u=.slice A 0 0) :
  cL P base (w.alloc (.cells J e)) (ec g (d,ix) e w.heap.size rows.length row.length 0) (d,ix) true i j s x u:=by
 have M:=Lz (g:=g) (w:=w) (d,ix) e rows.length row.length 0 (.cells J e);rcases y with y | y | ⟨h0,A,O,rfl,hr,rfl⟩
 ·exact .of_vd (M.vd h) (.inl (by rw[y];rfl))
 ·exact .of_vd (M.vd h) (.inr y)
 ·unfold cL
  split
  ·exact .nil _ _ _ _ hr h0
  ·exact M.vd h
theorem wx(hr:Rel P w g base σ a){o:Oper}{a3:St}{d n:Nat}{t:TypeId}{J:Array (Nat × Operand)}(ho:o.op=.buildSlice t n J)(V:o.dst=some d)(hd:∀d,o.dst=some d->d<a.tmps.size)
  (h:pZ P σ d t n J.toList=some (a3,true)):yA P base a3 o a w:=by
 unfold pZ at h
 split at h
 ·rename_i e he
  split at h
  ·rename_i row U;cases hc:(J.toList.length==n&&decide (n*row.length<=16777216)&&jV P e row) with
   | false=>rw[hc] at h;cases h
   | true =>
    rw[hc,g6] at h;simp only[a9,u7,g5] at hc;obtain⟨⟨hn,a7⟩,hz⟩:=hc
    split at h
    ·rename_i rows ts a4;simp only[b7,j8,E2] at h;subst h;obtain⟨O,k1,Z,Y,k4,k5⟩:=LK (ts:=ts) hr a4 (fun t ht=>A3.2 ht);obtain⟨ti,v0,hi,b0,hm⟩:=qd hz;have M:=mZ U;have a1:=iz U;have b1:ti.size=row.length:=by have:=a1;unfold fp at this;rw[hi] at this;injection this
     let W:Array Value:=(O.flatMap fun v=>v.cells.toList).toArray
     have a6:W.size=rows.length*row.length:=by
      have:∀l:List Value,(∀v∈l,v.cells.size=row.length)->(l.flatMap fun v=>v.cells.toList).length=l.length*row.length:=by
       intro l hl
       induction l with
       | nil=>simp
       | cons x l ih =>rw[G5,i6,ih (fun v hv=>hl v (by simp[hv])),D8,E3];have:=hl x (by simp);simp[this];omega
      show (O.flatMap fun v=>v.cells.toList).toArray.size=_;rw[B8,this O k4,Z,Y]
     have a0:∀(i j:Nat) s,i<rows.length->row[j]?=some s->∃u,W[i*row.length+j]?=some u/\VD P w (bF g ts).prot s (gd (rows.getD i []) j) u:=by
      intro i j s hi hs;have hj:=(g7.1 hs).1;have a2:O[i]?=some (O[i]'(by omega)):=g9 (by omega);obtain⟨u,h1,h2⟩:=k5 i _ j s a2 hs;refine⟨u,?_,h2⟩;show (O.flatMap fun v=>v.cells.toList).toArray[i*row.length+j]?=_;rw[G6,Great.flat_get M O k4];have q1:(i*row.length+j) / row.length=i:=by rw[L8,Nat.mul_add_div M,Nat.div_eq_of_lt hj,F8]
      have q2:(i*row.length+j) % row.length=j:=by rw[L8,Nat.mul_add_mod,Nat.mod_eq_of_lt hj]
      rw[q1,q2,a2];exact h1
     have a8:=hr.seal ts;obtain⟨r1,r2⟩:=LP (d:=d) a8 (hd d V) U a6 (by have:rows.length*1<=rows.length*row.length:=Nat.mul_le_mul_left _ M;rw[Y,hn] at this;rw[Y,hn];omega) (ix:=0) (fun i j s hi hs=>by obtain⟨u,k1,Z⟩:=a0 i j s hi hs;exact⟨u,k1,JQ Z (.inl rfl)⟩);have a5:rows.length=n:=by rw[Y];exact hn
     rw[a5] at r1 r2;have y:Instr.fill (fun i=>some (i*row.length,row.length)) ((Array.range (n*row.length)).map ((if n*row.length=0 then #[] else v0.cells)[· % (if n*row.length=0 then #[] else v0.cells).size]!)) (J.map fun p=>(p.1,a.eval p.2)).toList=some W:=by rw[K3,k1];exact Great.fill_whole M O _ k4 (by rw[Z,<- hn];simp)
     refine⟨.slice (some ⟨w.heap.size,0,none⟩) n n,_,_,.inl ?_,r1.put hd (t:=.c (.own (d,0) true e) (.l rows)) r2 |> fun h=>by rw[V] at h ⊢;exact h,(Below.refl _ _).alloc hr.base_le _,(Below.refl _ _).alloc (i8 _) _⟩;simp only[execOp,ho,Instr.buildSlice,l8,run_underlying (iM he),fH a1,i5];rw[j7 (by omega)];by_cases h0:n*row.length=0
     ·rw[m6 h0] at y ⊢;simp only[l8,m9,i5];simp only[h0,if_true] at y;rw[show n*row.length=0 from h0] at *;rw[y];simp only[l8,jh,i5,m9]
     ·simp only[j7 h0] at y ⊢;simp only[l8,zq hi b0,m9,i5];rw[y];simp only[l8,jh,i5,m9]
    ·cases h
  ·cases h
 ·cases h
end
section
variable [Low] {P:Program} {w w':World} {g g':G} {base:Nat} {σ:St} {a:Act}
theorem MQ{e:TypeId}(h:DU P e=true):∃i,P.info? e=some i/\i.bytes<=16384:=by
 unfold DU at h
 split at h
 ·rename_i i hi;exact⟨i,hi,by simpa using h⟩
 ·cases h
theorem yX(hr:Rel P w g base σ a){o:Oper}{a3:St}{d:Nat}{t:TypeId}{x y:Operand}(ho:o.op=.makeSlice t x y)(W:o.dst=some d)(hd:∀d,o.dst=some d->d<a.tmps.size)
  {ix:Nat} (h:xe P σ d ix t x y=some (a3,true)):yA P base a3 o a w:=by
 unfold xe at h
 split at h
 ·rename_i e he
  split at h
  ·rename_i row n m M hn hm;simp only[b7,j8,a9,g5] at h;obtain⟨rfl,⟨⟨⟨h0,rfl⟩,h1⟩,hz⟩,b2⟩:=h;obtain⟨k1,hx⟩:=OS hn (dO hr x);obtain⟨k2,hy⟩:=OS hm (dO hr y);obtain⟨Y,v0,hi,b3,a2⟩:=qd hz;obtain⟨c1,J,hb⟩:=MQ b2;rw[hi] at J;injection J with J;subst J
   have b1:=iz M;have c0:=mZ M;obtain⟨a8,b4⟩:=Fe a2
   let zero:Array Value:=if n.toNat*row.length=0 then #[] else v0.cells
   let U:Array Value:=(Array.range (n.toNat*row.length)).map (zero[· % zero.size]!)
   have a5:U.size=(List.replicate n.toNat (row.map mz)).length*row.length:=by simp[U]
   have a0:∀(i j:Nat) s,i<(List.replicate n.toNat (row.map mz)).length->row[j]?=some s->∃u,U[i*row.length+j]?=some u/\cL P base (w.alloc (.cells U e)) (ec g (d,ix) e w.heap.size (List.replicate n.toNat (row.map mz)).length row.length 0) (d,ix) true i j s (gd ((List.replicate n.toNat (row.map mz)).getD i []) j) u:=by
    intro i j s J hs;have hj:=(g7.1 hs).1;have a1:i<n.toNat:=by simpa using J
    obtain⟨u,hu,hv,b5⟩:=b4 j s hs;have a6:i*row.length+j<n.toNat*row.length:=by have:(i+1)*row.length<=n.toNat*row.length:=z7 _ a1;rw[E3] at this;omega
    have V:zero=v0.cells:=by show (if _ then _ else _)=_;rw[j7 (by omega)]
    have b6:zero.size=row.length:=by rw[V];simpa using a8
    refine⟨u,?_,?_⟩
    ·show ((Array.range (n.toNat*row.length)).map (zero[· % zero.size]!))[i*row.length+j]?=_;rw[H4,Array.getElem?_range,m6 a6,C7,b6];rw[L8,Nat.mul_add_mod,Nat.mod_eq_of_lt hj,V];have:v0.cells[j]?=some u:=by simpa using hu
     rw[getElem!_def,this]
    ·have e:(List.replicate n.toNat (row.map mz)).getD i []=row.map mz:=by rw[g4,List.getElem?_replicate,m6 a1];rfl
     rw[e,Iy row j s hs];refine JQ (hv w g.prot) ?_;cases s with
     | sl e' =>obtain⟨rfl,r,a7⟩:=b5 e' rfl;exact .inr (.inr ⟨rfl,none,e',rfl,by rw[a7];rfl,rfl⟩)
     | opq=>exact absurd hs (acJ a2 j)
     | _=>exact .inr (.inl rfl)
   obtain⟨r1,r2⟩:=LP (d:=d) hr (hd d W) M a5 (by simp;omega) a0;have a4:(List.replicate n.toNat (row.map mz)).length=n.toNat:=by simp
   rw[a4] at r1 r2;refine⟨.slice (some ⟨w.heap.size,0,none⟩) n.toNat n.toNat,_,_,.inl ?_,r1.put hd (t:=.c (.own (d,ix) true e) (.l _)) r2 |> fun h=>by rw[W] at h ⊢;exact h,(Below.refl _ _).alloc hr.base_le _,(Below.refl _ _).alloc (i8 _) _⟩;have hw:IntKind.i64.wrap n=n:=IntWalk.i64_in _ (by omega);have c2:(Y.bytes:Int)*n<=16384*4294967296:=by
    have h2:Y.bytes*n.toNat<=16384*4294967296:=Nat.mul_le_mul hb (by omega);have:((Y.bytes*n.toNat:Nat):Int)<=((16384*4294967296:Nat):Int):=by exact_mod_cast h2
    rw[Int.natCast_mul,Int.toNat_of_nonneg h0] at this;exact this
   have b0:¬(n<0\/(Y.bytes:Int)*n > 2 ^ 48):=by
    have:(16384*4294967296:Int)<=2 ^ 48:=by decide
    omega
   simp only[execOp,ho,hx,hy,Instr.makeSlice,l8,run_underlying (iM he),i5,asInt,asIntOf,m9,typeInfo,program,Sem.run,hi,hw];rw[j7 (by simp;omega)];have Z:(askRoom (n.toNat*Y.bytes)).run P w=.ok () w:=by unfold askRoom;split <;> simp[mark,Sem.run]
   simp only[l8,Z,i5,fH b1];by_cases O:n.toNat*row.length=0
   ·rw[m6 O];have:zero = #[]:=m6 O;simp only[l8,m9,i5];rw[<- this];simp only[l8,jh,i5,m9];rfl
   ·rw[j7 O];have:zero=v0.cells:=j7 O;simp only[l8,zq hi b3,m9,i5];rw[<- this];simp only[l8,jh,i5,m9];rfl
  ·cases h
 ·cases h
theorem BV{y:Type}:∀(xs l:List y) (o k:Nat),(fV l o xs)[k]?=if o<=k/\k<o+xs.length/\k<l.length then xs[k - o]? else l[k]?
 | [],l,o,k=>by rw[fV,j7 (by simp;omega)]
 | x::xs,l,o,k=>by
  rw[fV,BV xs (l.set o x) (o+1) k];simp only[List.length_set,D8];by_cases hk:o=k
  ·subst hk;rw[j7 (by omega)];by_cases hl:o<l.length
   ·rw[m6 ⟨i8 _,by omega,hl⟩];simp[hl]
   ·rw[j7 (by omega),H2 (by simp;omega),H2 (by omega)]
  ·by_cases hin:o+1<=k/\k<o+1+xs.length/\k<l.length
   ·rw[m6 hin,m6 (by omega)];rw[show k - o=(k - (o+1))+1 from by omega,J0]
   ·rw[j7 hin,j7 (by omega),List.getElem?_set_ne hk]
theorem gO{y:Type}:∀(xs l:List y) (o:Nat),(fV l o xs).length=l.length
 | [],l,o=>rfl
 | x::xs,l,o=>by rw[fV,gO xs,List.length_set]
theorem SL(xs l:b8)(o k:Nat)(hl:k<l.length):gd (fV l o xs) k=if o<=k/\k<o+xs.length then gd xs (k - o) else gd l k:=by
 unfold gd;rw[g4,BV]
 split
 ·rename_i h;rw[m6 ⟨h.1,h.2.1⟩,g4]
 ·rename_i h;rw[j7 (fun y=>h ⟨y.1,y.2,hl⟩),g4]
theorem NF{cs y:List Ce}{ds W:b8}{M J us:Array Value}{off:Nat}(hv:VCs P w g base cs ds M)(Y:VCs P w g base y W us)(a2:off+y.length<=cs.length)(a0:ds.length=cs.length)(U:W.length=y.length)
  (a1:J.size=M.size) (Z:∀k,k<M.size->J[k]?=if off<=k/\k<off+us.size then us[k - off]? else M[k]?):VCs P w g base (fV cs off y) (fV ds off W) J:=by
 refine⟨by rw[a1,hv.1,gO],fun j c O=>?_⟩;have V:j<cs.length:=by
  have:=(g7.1 O).1
  rwa [gO] at this
 rw[BV] at O;rw[Z j (by rw[hv.1];exact V),SL _ _ _ _ (by rw[a0];exact V)];by_cases hin:off<=j/\j<off+y.length
 ·rw[m6 ⟨hin.1,hin.2,V⟩] at O;rw[m6 (by rw[Y.1];exact hin),m6 (by rw[U];exact hin)];exact Y.2 _ c O
 ·rw[j7 (fun h=>hin ⟨h.1,h.2.1⟩)] at O;rw[j7 (by rw[Y.1];exact hin),j7 (by rw[U];exact hin)];exact hv.2 _ c O
theorem MI{w:World}:∀(y:List Field),(∀f∈y,(fp P f.type).isSome=true)->(y.mapM fun f=>(do pure (f.offset,<- sizeOf f.type):Sem (Nat × Nat))).run P w=.ok (y.map fun f=>(f.offset,(fp P f.type).getD 0)) w
 | [],_=>by simp
 | f::y,h=>by obtain⟨n,J⟩:=C8.1 (h f (by simp));have O:=MI (w:=w) y (fun f M=>h f (by simp[M]));simp only[List.mapM_cons,l8,fH J,i5,m9,O,w8,J,z6]
theorem Jm(hr:Rel P w g base σ a){t:TypeId}{fs:Array Field}(hu:P.underlying t=some (.struct fs)):∀ {Y:List (Nat × Operand)} {cs W:List Ce} {ds V:b8} {y:Array Value},
  xZ P t σ Y (cs,ds)=some (W,V)->VCs P w g base cs ds y->ds.length=cs.length ->
  ∃O,Instr.fill ((fs.map fun f=>(f.offset,(fp P f.type).getD 0))[·]?) y (Y.map fun p=>(p.1,a.eval p.2))=some O/\VCs P w g base W V O
 | [],cs,W,ds,V,y,h,hv,_=>by simp only[xZ,b7,j8] at h;obtain⟨rfl,rfl⟩:=h;exact⟨y,rfl,hv⟩
 | (i,x)::r,cs,W,ds,V,y,h,hv,hl=>by
  unfold xZ at h
  split at h
  ·rename_i off ft U a3 hf hc;cases M:(fp P ft==some U.length&&Nat.ble (off+U.length) cs.length) with
   | false=>rw[M] at h;cases h
   | true =>
    rw[M,g6] at h;simp only[a9,u7] at M;obtain⟨M,Z⟩:=M;have Z:off+U.length<=cs.length:=y9 Z;obtain⟨a5,f,J,a4,rfl,rfl⟩:=Hg hf;rw[hu] at J;injection J with J;injection J with J;subst J
    obtain⟨hx,_⟩:=to hc (dO hr x);obtain⟨g1,g2⟩:=Great.foldl_set f.offset (a.eval x).cells.toList 0 y
    let a0:=((a.eval x).cells.toList.zipIdx 0).foldl (fun cs (x:Value × Nat)=>cs.setIfInBounds (f.offset+x.2) x.1) y
    have a1:VCs P w g base (fV cs f.offset U) (fV ds f.offset a3) a0:=by
     refine NF hv hx Z hl (vY hc) g1 fun k hk=>?_
     rw[g2 k];simp only[F8,F7];by_cases hin:f.offset<=k/\k<f.offset+(a.eval x).cells.size
     ·rw[m6 ⟨hin.1,hin.2,hk⟩,m6 hin];simp
     ·rw[j7 (fun h=>hin ⟨h.1,h.2.1⟩),j7 hin]
    obtain⟨O,k1,k2⟩:=Jm hr hu h a1 (by rw[gO,gO];exact hl);refine⟨O,?_,k2⟩;simp only[w8];unfold Instr.fill;have a2:(fs.map fun f=>(f.offset,(fp P f.type).getD 0))[i]?=some (f.offset,U.length):=by rw[H4,a4];simp[M]
    simp only[a2];rw[j7 (by simp only[hx.1];simp;rw[hv.1];exact Z)];rw[<- k1]
    congr 1
    rw[<- Array.foldl_toList,Array.toList_zipIdx]
  ·cases h
theorem NA(hr:Rel P w g base σ a){o:Oper}{Y:St}{d:Nat}{b:Bool}{t:TypeId}{J:Array (Nat × Operand)}(ho:o.op=.build t J)(U:o.dst=some d)(hd:∀d,o.dst=some d->d<a.tmps.size)
  (h:Vh P σ d b t J.toList=some (Y,true)):yA P base Y o a w:=by
 unfold Vh at h
 split at h
 ·rename_i row a3
  split at h
  ·rename_i cs ds hl;cases hz:(jV P t row&&PO P t) with
   | false=>rw[hz] at h;cases h
   | true =>
    rw[hz] at h;simp only[n4,f9,b7,j8,E2] at h;subst h;simp only[a9] at hz;obtain⟨hz,M⟩:=hz;obtain⟨ti,v0,hi,a0,a1⟩:=qd hz;obtain⟨y,W,a2⟩:∃y,P.underlying t=some (.struct y)/\∀f∈y.toList,(fp P f.type).isSome=true:=by
     unfold PO at M
     split at M
     ·rename_i y W;exact⟨y,W,fun f hf=>i9.1 M f hf⟩
     ·cases M
    have V:=hr.wipeRow (hd d U) (RK g d w) rfl hr.fresh;obtain⟨O,k1,k2⟩:=Jm V W hl (Yz a1 d 0 (fun i=>m6 rfl)) (by simp[pF]);refine⟨.agg O,w,Zt g d,.inl ?_,V.put hd (t:=⟨.one (.agg cs),ds⟩) ⟨O,rfl,k2⟩ |> fun h=>by rw[U] at h ⊢;exact h,Below.refl _ _,Below.refl _ _⟩;have Z:(y.mapM fun f=>(do pure (f.offset,<- sizeOf f.type):Sem (Nat × Nat))).run P w=.ok (y.map fun f=>(f.offset,(fp P f.type).getD 0)) w:=by
     rw[K6];simp only[map_eq_pure_bind,l8,MI y.toList a2,i5,m9]
     congr 1
     rw[<- K3,Array.toArray_toList]
    simp only[execOp,ho,Instr.build,l8,zq hi a0,run_underlying W,i5];rw[Z];simp only[i5];rw[K3,k1];simp only[m9];rfl
  ·cases h
 ·cases h
end
section
variable [Low] {P:Program} {w w':World} {g g':G} {base:Nat} {σ:St} {a:Act}
theorem Sh1.map_id'(s:Sh1):s.map (fun c=>c)=s:=by cases s <;> simp[Sh1.map]
theorem Sh.map_id'(s:Sh):s.map (fun c=>c)=s:=by
 cases s with
 | one x=>simp[Sh.map,Sh1.map_id']
 | tup xs =>
  simp only[Sh.map]
  congr 1
  induction xs with
  | nil=>rfl
  | cons x xs y=>simp only[w8,Sh1.map_id',y]
theorem jr.vt'(h:jr P base g g' w w' (fun c=>c)){t:T}{v:Value}(hv:VT P w g base t v):VT P w' g' base t v:=by
 have:=h.vt hv
 rwa [Sh.map_id'] at this
theorem jr.vcs'(h:jr P base g g' w w' (fun c=>c)){cs:List Ce}{p:b8}{y:Array Value}(hv:VCs P w g base cs p y):VCs P w' g' base cs p y:=by
 have:=h.vcs hv
 rwa [List.map_id'] at this
theorem ZP{nb:Nat}(M:∀b,b≠nb->w'.heap[b]?=w.heap[b]?)(hp:g.prot nb=0)(ho:∀t,g.owner nb≠some (.inr t))(a2:∀b,g.old b->b≠nb):jr P base g g w w' (fun c=>c):=by
 have V:∀ {s:S} {x:D} {v:Value},VD P w g.prot s x v->VD P w' g.prot s x v:=fun h =>h.mono fun b o u h1 y=>⟨(bg (M b (by rintro rfl;omega)) o).trans y,h1⟩
 have U:∀ {t:Tok} {xm:Bool} {e:TypeId} {row:List S} {rows:List b8} {v:Value},dX P w g base t xm e row rows v->dX P w' g base t xm e row rows v:=by
  intro t xm e row rows v h;rcases h with h | ⟨cap,a0,E,h1,y,J,Z,Y,h6,h7,h8,h9,h10,h11⟩
  ·exact .inl h
  ·refine .inr ⟨cap,a0,E,h1,y,J,Z,Y,by rw[M _ (by intro e;rw[e] at Y;exact ho t Y)];exact h6,h7,h8,h9,h10,fun i j s hi hs=>?_⟩;obtain⟨u,k1,k2⟩:=h11 i j s hi hs;exact⟨u,k1,k2.mono rfl (fun b o z h1 y=>⟨(bg (M b (by rintro rfl;omega)) o).trans y,h1⟩) (fun _ b o h0 a1 a3 a4=>⟨by rw[M b (by rintro rfl;exact ho t a1)];exact a4,h0,a1,a3,rfl,rfl,fun e=>e⟩)⟩
 have W:∀ {cells:List S} {off:Nat} {x:D} {v:Value},iV P w g base cells off x v->iV P w' g base cells off x v:=by rintro cells off x v ⟨b,o,h1,y,J⟩;refine⟨b,o,h1,y,fun j s hs=>?_⟩;obtain⟨u,k1,k2⟩:=J j s hs;exact⟨u,(bg (M b (a2 b y)) _).trans k1,V k2⟩
 intro c x v hv;cases c with
 | any=>trivial
 | d s=>exact V hv
 | kb b=>exact hv
 | own t xm e=>obtain⟨row,hr,hv⟩:=hv;exact⟨row,hr,U hv⟩
 | ptr id off=>exact hv
 | eptr tk e off =>
  cases tk with
  | none =>obtain⟨row,b,o,h1,y,J,Z⟩:=hv;refine⟨row,b,o,h1,y,J,fun j s hs=>?_⟩;obtain⟨u,k1,k2,k3⟩:=Z j s hs;exact⟨u,(bg (M b (by rintro rfl;omega)) _).trans k1,k2,V k3⟩
  | some t=>obtain⟨row,h1,y,J,u,Z⟩:=hv;exact⟨row,h1,y,J,u,U Z⟩
 | inn t e off ei=>exact oG hv rfl (fun o Y h6=>by rw[M _ (by intro e;rw[e] at Y;exact ho t Y)];exact h6) U
 | cptr cells off=>exact W hv
 | fn f caps =>
  obtain⟨a0,h1,y,J⟩:=hv;refine⟨a0,h1,y,fun j c hc=>?_⟩;obtain⟨u,hu,O⟩:=J j c hc;refine⟨u,hu,?_⟩;cases c with
  | d s=>exact V O
  | ptr id off=>exact O
  | cptr cells off=>exact W O
theorem pj{v:Value}(h:Fr v=true):v.oneCell'=true:=by cases v <;> simp_all [Fr,Value.oneCell']
theorem ze{cs:List Ce}{ds:b8}{y:Array Value}(h:VCs P w g base cs ds y)(V:∀c∈cs,c≠.any):∀v∈y.toList,v.oneCell'=true:=by
 intro v hv;obtain⟨j,O⟩:=F9 hv;have M:j<cs.length:=by rw[<- h.1];simpa using (g7.1 O).1
 obtain⟨u,h1,U⟩:=h.2 j _ (g9 M);have:v=u:=by
  have J:y[j]?=some v:=by simpa using O
  rw[h1] at J;injection J with J;exact J.symm
 subst this;exact pj (U.flat (V _ (v6 M)))
def iR(y:Array Value)(o:Nat)(J:List Value):Array Value:=(y.toList.take o++J++y.toList.drop (o+J.length)).toArray
theorem Et(J:Array Value)(o:Nat)(y:List Value)(h:o+y.length<=J.size)(k:Nat):(iR J o y)[k]?=if o<=k/\k<o+y.length then y[k - o]? else J[k]?:=by
 unfold iR;rw[G6];have hl:(J.toList.take o).length=o:=by simp;omega
 by_cases h1:k<o
 ·rw[j7 (by omega),C0,z9 (by omega),u9,m6 h1];simp
 ·by_cases M:k<o+y.length
  ·rw[m6 ⟨by omega,M⟩,C0,C3 (by omega),hl,z9 (by omega)]
  ·rw[j7 (by omega),C3 (by simp;omega)];simp only[i6,hl,A6];rw[show o+y.length+(k - (o+y.length))=k from by omega];simp
theorem zQ(y:Array Value)(o:Nat)(J:List Value)(h:o+J.length<=y.size):(iR y o J).size=y.size:=by unfold iR;simp only[B8,i6,w5,v9,F7];omega
theorem Jt{t n b o:Nat}{u:Value}{y:Array Value}{E:TypeId}(O:fp P t=some n)(J:u.cells.size=n)(M:w.heap[b]?=some (.cells y E (0,0)))(U:o+n<=y.size)(h1:∀v∈u.cells.toList,v.oneCell'=true) :
  (Instr.storeAt t (.pointer (some ⟨b,o,none⟩)) u).run P w=.ok () (w.setRow b (iR y o u.cells.toList)):=by
 simp only[Instr.storeAt,Instr.sureAddr,storeVar,l8,m9,i5,fH O];rw[j7 (by simp[J])];have:=run_storeCells_at P b o E u.cells.toList 0 y w M (by simp[J];omega) h1;simp only[F8] at this;exact this
def Se(P:Program)(base:Nat)(y:St)(o:Oper)(p:Operand)(a:Act)(w:World):Prop:=
 ∃z w' g',((execOp a.eval o).run P w=.ok (.value z) w'\/((execOp a.eval o).run P w=.ok .skip w'/\z=undef))/\Rel P w' g' base y (a.put o.dst z)/\Below base w w' /\
  ∀B,(∀b o,a.eval p=.pointer (some ⟨b,o,none⟩)->B<=b)->Below B w w'
theorem Se.does{o:Oper}{y:St}{p:Operand}(h:Se P base y o p a w):Vl P base y o a w:=by obtain⟨z,w',g',h1,J,M,_⟩:=h;exact⟨z,w',g',h1,J,M⟩
theorem Wy(M:Rel P w g base σ a){o:Oper}{t n id off:Nat}{x p:Operand}{cs V:List Ce}{ds Y:b8}{pp:b8}(ho:o.op=.store t p x)(hd:∀d,o.dst=some d->d<a.tmps.size)(hn:fp P t=some n)
  (hc:(ahm P σ t x).cells=some (cs,ds)) (hl:cs.length=n) (hp:(opd σ p)=⟨.one (.c (.ptr id off)),pp⟩) (O:bS id σ.h=some (V,Y)) (a1:off+n<=V.length) :
  Se P base (St.put ⟨σ.r,σ.e,rx id (fV V off cs,fV Y off ds) σ.h⟩ o.dst .none_) o p a w:=by
 have W:=dO M p;rw[hp] at W;have W:a.eval p=.pointer (some ⟨g.θ id,off,none⟩):=W;obtain⟨hx,b0⟩:=to hc (abm M t x);obtain⟨k1,Z,k3,kl,J,E,k4,k5⟩:=M.box id V Y O;have a5:(a.eval x).cells.toList.length=n:=by simp[hx.1,hl]
 have a0:off+(a.eval x).cells.toList.length<=J.size:=by rw[a5,k5.1];exact a1
 have a7:=Jt (P:=P) (w:=w) (b:=g.θ id) (o:=off) hn (by rw[hx.1,hl]) k4 (by rw[k5.1];exact a1) (ze hx b0);have y:∀b,b≠g.θ id->(w.setRow (g.θ id) (iR J off (a.eval x).cells.toList)).heap[b]?=w.heap[b]?:=fun b O=>setRow_other w (g.θ id) b _ O
 have hk:jr P base g g w (w.setRow (g.θ id) (iR J off (a.eval x).cells.toList)) (fun c=>c):=ZP y k3 (by intro t e;rw[Z] at e;cases e) (fun b O=>M.oldNe O Z);have U:(w.setRow (g.θ id) (iR J off (a.eval x).cells.toList)).heap.size=w.heap.size:=by simp[World.setRow]
 have a6:Rel P (w.setRow (g.θ id) (iR J off (a.eval x).cells.toList)) g base ⟨σ.r,σ.e,rx id (fV V off cs,fV Y off ds) σ.h⟩ a:=by
  refine⟨fun i=>hk.vt' (M.env i),fun a4 b2 b1 h1=>?_,by rw[U];exact M.fresh,by rw[U];exact M.base_le,M.defers,M.lowIn (fun b O=>y b (M.oldNe O Z)) (D5 U.symm) (fun b t J e _ a3 _ O _=>⟨J,(y b (by intro e';rw[e',Z] at a3;cases a3)).trans O,rfl⟩),M.mine⟩;rw[qA] at h1;by_cases e:a4=id
  ·subst e;rw[m6 rfl] at h1;injection h1 with h1
   injection h1 with e1 e2
   subst e1;subst e2;refine⟨k1,Z,k3,by rw[gO,gO];exact kl,_,E,setRow_heap w _ J _ E _ k4,?_⟩;exact NF (hk.vcs' k5) (hk.vcs' hx) (by rw[hl];exact a1) kl (vY hc) (zQ _ _ _ a0) (fun k a2=>by rw[Et _ _ _ a0];simp)
  ·rw[j7 e] at h1;obtain⟨j1,j2,j3,jl,a8,E',j4,j5⟩:=M.box a4 b2 b1 h1;refine⟨j1,j2,j3,jl,a8,E',by rw[y _ (by intro e';rw[e'] at j2;rw[Z] at j2;injection j2 with j2;injection j2 with j2;exact e j2.symm)];exact j4,hk.vcs' j5⟩
 refine⟨undef,_,g,.inr ⟨?_,rfl⟩,a6.put hd (t:=.none_) ⟨#[],rfl,rfl,fun j x h=>by simp at h⟩,⟨rfl,rfl,rfl,by rw[U];exact i8 _,fun k a2=>y k (by omega)⟩,fun B hB=>⟨rfl,rfl,rfl,by rw[U];exact i8 _,fun k a2=>y k (by have:=hB _ _ W;omega)⟩⟩;simp only[execOp,ho,W,l8,a7,i5,m9]
theorem jN{t:Tok}(O:∀b o u,o<g.prot b->w.cell? ⟨b,o,none⟩=some u->w'.cell? ⟨b,o,none⟩=some u/\o<g'.prot b)
  (a1:∀b y,y≠t->g.owner b=some (.inr y)->b<w.heap.size->w'.heap[b]?=w.heap[b]?/\g'.owner b=g.owner b/\g'.prot b=g.prot b)
  (Y:∀y,y≠t->g'.ρ y=g.ρ y/\g'.len y=g.len y/\g'.wid y=g.wid y/\g'.ety y=g.ety y) (a5:g'.θ=g.θ) (a6:∀b,g.old b->w'.heap[b]?=w.heap[b]?) (a8:∀b y,y≠t->g.owner b=some (.inr y)->b<w.heap.size->g'.path b=g.path b/\g'.need b=g.need b:=by exact fun _ _ _ _ _=>⟨rfl,rfl⟩) (a7:g'.old=g.old:=by rfl):jr P base g g' w w' (bv t):=by
 have V:∀ {s:S} {x:D} {v:Value},VD P w g.prot s x v->VD P w' g'.prot s x v:=fun h=>h.mono O
 have W:∀ {y:Tok} {Z:Bool} {e:TypeId} {row:List S} {rows:List b8} {v:Value},y≠t->dX P w g base y Z e row rows v->dX P w' g' base y Z e row rows v:=by
  intro y Z e row rows v J h;obtain⟨e1,e2,e3,e4⟩:=Y y J;rcases h with⟨h0,h1,M⟩ | ⟨cap,a3,E,h1,M,U,h4,h5,h6,h7,h8,h9,h10,h11⟩
  ·exact .inl ⟨h0,by rw[e2];exact h1,M⟩
  ·obtain⟨q1,q2,q3⟩:=a1 _ y J h5 (aP h6);refine .inr ⟨cap,a3,E,by rw[e1];exact h1,M,by rw[e4];exact U,by rw[e1];exact h4,by rw[e1,q2];exact h5,by rw[e1,q1];exact h6,h7,by rw[e2];exact h8,by rw[e3];exact h9,by rw[e1,e2,e3,q3];exact h10,fun i j s hi hs=>?_⟩;obtain⟨u,k1,k2⟩:=h11 i j s hi hs;exact⟨u,k1,k2.mono rfl O (fun _ b o h0 ho b0 hb=>by have a4:=aP hb;obtain⟨z1,z2,z3⟩:=a1 b y J ho a4;obtain⟨z4,z5⟩:=a8 b y J ho a4;exact⟨z1.trans hb,h0,z2.trans ho,by rw[e1];exact b0,z4,z5,fun e=>z3.trans e⟩)⟩
 have a2:∀ {cells:List S} {off:Nat} {x:D} {v:Value},iV P w g base cells off x v->iV P w' g' base cells off x v:=by rintro cells off x v ⟨b,o,h1,M,U⟩;refine⟨b,o,h1,by rw[a7];exact M,fun j s hs=>?_⟩;obtain⟨u,k1,k2⟩:=U j s hs;exact⟨u,(bg (a6 b M) _).trans k1,V k2⟩
 intro c x v hv;cases c with
 | any=>trivial
 | d s=>exact V hv
 | kb b=>exact hv
 | own y Z e =>
  obtain⟨row,hr,hv⟩:=hv;change VC P w' g' base (bif y==t then (bif Z then .any else .d (.sl e)) else .own y Z e) x v;by_cases J:y=t
  ·rw[show (y==t)=true from by simpa using J,g6];cases Z with
   | true=>trivial
   | false=>exact V (py hr hv)
  ·rw[show (y==t)=false from by simpa using J,f9];exact⟨row,hr,W J hv⟩
 | ptr id off=>show v=_;rw[a5];exact hv
 | eptr tk e off =>
  cases tk with
  | none =>obtain⟨row,b,o,h1,M,U,h4⟩:=hv;refine⟨row,b,o,h1,M,U,fun j s hs=>?_⟩;obtain⟨u,k1,k2,k3⟩:=h4 j s hs;obtain⟨q1,q2⟩:=O b _ u k2 k1;exact⟨u,q1,q2,V k3⟩
  | some y =>
   change VC P w' g' base (bif y==t then .any else .eptr (some y) e off) x v;by_cases J:y=t
   ·rw[show (y==t)=true from by simpa using J];trivial
   ·rw[show (y==t)=false from by simpa using J,f9];obtain⟨row,h1,M,U,u,h4⟩:=hv;exact⟨row,h1,by rw[(Y y J).1];exact M,U,u,W J h4⟩
 | inn y e off ei =>
  change VC P w' g' base (bif y==t then .any else .inn y e off ei) x v;by_cases J:y=t
  ·rw[show (y==t)=true from by simpa using J];trivial
  ·rw[show (y==t)=false from by simpa using J,f9];exact oG hv (Y y J).1 (fun o h5 h6=>(a1 _ y J h5 (aP h6)).1.trans h6) (fun hu=>W J hu)
 | cptr cells off=>exact a2 hv
 | fn f caps =>
  obtain⟨a3,h1,M,U⟩:=hv;refine⟨a3,h1,M,fun j c hc=>?_⟩;obtain⟨u,hu,a0⟩:=U j c hc;refine⟨u,hu,?_⟩;cases c with
  | d s=>exact V a0
  | ptr id off=>show u=_;rw[a5];exact a0
  | cptr cells off=>exact a2 a0
theorem Rel.drop(J:Rel P w g base σ a){t:Tok}(hk:jr P base g g' w w' (bv t))(a2:g'.θ=g.θ)
  (a5:∀b id,g.owner b=some (.inl id)->b<w.heap.size->w'.heap[b]?=w.heap[b]?/\g'.owner b=g.owner b/\g'.prot b=g.prot b)
  (hf:∀b,w'.heap.size<=b->g'.prot b=0/\g'.owner b=none) (a0:w.heap.size<=w'.heap.size) (a4:∀b,g.old b->g'.owner b=g.owner b/\g'.prot b=g.prot b/\w'.heap[b]?=w.heap[b]?) (O:g'.old=g.old:=by rfl) (a7:∀y,y.1=1000001->g'.ρ y=g.ρ y/\g'.len y=g.len y/\∀b,g.owner b=some (.inr y)->b<w.heap.size->g'.owner b=some (.inr y)/\w'.heap[b]?=w.heap[b]?)
  (a6:∀b y,y.1=1000001->g'.owner b=some (.inr y)->g.owner b=some (.inr y)/\g'.path b=g.path b/\g'.need b=g.need b):Rel P w' g' base (σ.map (bv t)) a:=by
 refine⟨fun i=>J.envMap hk rfl i,fun id cs ds hl=>J.boxMap hk hl fun cs ds hq=>?_,hf,m8 J.base_le a0,J.defers,⟨⟨O.trans J.low.1.1,by rw[a2];exact J.low.1.2⟩,fun b hb=>by
  rw[O] at hb;obtain⟨M,W,k3,Y⟩:=J.low.2.1 b hb;obtain⟨U,Z,V⟩:=a4 b hb;exact⟨U.trans M,Z.trans W,V.trans k3,B0 Y a0⟩,fun t x hx=>by
  obtain⟨M,W,k3,Y⟩:=J.low.2.2 t x hx;obtain⟨U,Z,V⟩:=a7 t M;refine⟨M,U.trans W,Z.trans k3,fun h0=>?_⟩;obtain⟨m1,a3,m2,m3⟩:=Y h0;obtain⟨z1,z2⟩:=V _ m1 (aP m2);exact⟨z1,a3,z2.trans m2,m3⟩⟩,fun b y a1 ho=>by
  obtain⟨z1,z2,z3⟩:=a6 b y a1 ho;rw[z2,z3];exact J.mine b y a1 z1⟩
 obtain⟨M,W,k3,kl,a3,E,Y,k5⟩:=J.box id cs ds hq;obtain⟨U,Z,V⟩:=a5 _ id W (aP Y);exact⟨by rw[a2],Z,V,U⟩
end
section
variable [Low] {P:Program} {w w':World} {g g':G} {base:Nat} {σ:St} {a:Act}
def wL(g:G)(t s:Tok)(f:List (Nat × Nat)->List (Nat × Nat))(top:Option (List (Nat × Nat))):G:=
 { g with owner:=fun b=>if g.owner b=some (.inr t) then (if b=g.ρ t then (if top.isSome=true then some (.inr s) else some (.inr t)) else some (.inr s)) else g.owner b,path:=fun b=>if g.owner b=some (.inr t) then (if b=g.ρ t then top.getD [] else f (g.path b)) else g.path b,need:=fun b=>if g.owner b=some (.inr t)/\b=g.ρ t then g.len t*g.wid t else g.need b }
theorem lH{t y:Tok}(J:t.1≠1000001)(h:y.1=1000001):y≠t:=fun e=>J (by rw[<- e];exact h)
theorem lh{t s:Tok}{f:List (Nat × Nat)->List (Nat × Nat)}{top:Option (List (Nat × Nat))}{b:Nat}(h:g.owner b≠some (.inr t)):(wL g t s f top).owner b=g.owner b/\(wL g t s f top).path b=g.path b/\(wL g t s f top).need b=g.need b:=
 ⟨j7 h,j7 h,j7 (fun e=>h e.1)⟩
theorem zB(W:Rel P w g base σ a){t s:Tok}(U:t.1≠1000001)(Z:s.1≠1000001){f:List (Nat × Nat)->List (Nat × Nat)}{top:Option (List (Nat × Nat))}:jr P base g (wL g t s f top) w w (bv t)/\Rel P w (wL g t s f top) base (σ.map (bv t)) a:=by
 have O:∀ {b:Nat} {M:Tok},M≠t->g.owner b=some (.inr M)->g.owner b≠some (.inr t):=fun ht y e=>by rw[y] at e;injection e with e;injection e with e;exact ht e
 have hk:jr P base g (wL g t s f top) w w (bv t):=
  jN (fun b o u h1 h2=>⟨h2,h1⟩) (fun b M J y _=>⟨rfl,(lh (O J y)).1,rfl⟩) (fun _ _=>⟨rfl,rfl,rfl,rfl⟩) rfl (fun _ _=>rfl) (fun b M J y _=>(lh (O J y)).2)
 refine⟨hk,W.drop hk rfl (fun b id y _=>⟨rfl,(lh (by rw[y];simp)).1,rfl⟩) (fun b Y=>?_) (i8 _) (fun b Y=>⟨(lh (by rw[(W.low.2.1 b Y).1];simp)).1,rfl,rfl⟩) rfl (fun M J=>⟨rfl,rfl,fun b y _=>⟨(lh (O (lH U J) y)).1.trans y,rfl⟩⟩) (fun b M J y=>?_)⟩
 rotate_right
 ·by_cases V:g.owner b=some (.inr t)
  ·exfalso
   change (if g.owner b=some (.inr t) then _ else _)=_ at y;rw[m6 V] at y;have hs:M=t\/M=s:=by
    split at y
    ·split at y
     ·injection y with y;injection y with y;exact .inr y.symm
     ·injection y with y;injection y with y;exact .inl y.symm
    ·injection y with y;injection y with y;exact .inr y.symm
   rcases hs with rfl | rfl
   ·exact U J
   ·exact Z J
  ·obtain⟨z1,z2,z3⟩:=lh (s:=s) (f:=f) (top:=top) V;exact⟨z1.symm.trans y,z2,z3⟩
 have:=W.fresh b Y;exact⟨this.1,by rw[(lh (by rw[this.2];simp)).1];exact this.2⟩
theorem RL(t y:Tok)(σ:St):((σ.map (bv t)).map (bv y)).map (bv t)=(σ.map (bv y)).map (bv t):=by
 have hc:∀c,bv t (bv y (bv t c))=bv t (bv y c):=by
  intro c;cases c with
  | own J x e=>cases x <;> cases h:(J==t) <;> cases M:(J==y) <;> simp[bv,h,M]
  | eptr U e off=>cases U with
   | none=>rfl
   | some J=>cases h:(J==t) <;> cases M:(J==y) <;> simp[bv,h,M]
  | inn J e off V=>cases h:(J==t) <;> cases M:(J==y) <;> simp[bv,h,M]
  | _=>rfl
 have h1:∀x:Sh1,((x.map (bv t)).map (bv y)).map (bv t)=(x.map (bv y)).map (bv t):=by
  intro x;cases x with
  | c x=>simp[Sh1.map,hc]
  | agg xs=>simp only[Sh1.map,D6];congr 1;exact D4 fun c _=>hc c
 have O:∀x:Sh,((x.map (bv t)).map (bv y)).map (bv t)=(x.map (bv y)).map (bv t):=by
  intro x;cases x with
  | one x=>simp only[Sh.map,h1]
  | tup xs=>simp only[Sh.map,D6];congr 1;exact D4 fun c _=>h1 c
 simp only[St.map,D6]
 congr 1
 ·exact D4 fun p _=>by simp only[Function.comp,O]
 ·exact D4 fun p _=>by simp only[Function.comp,O]
 ·exact D4 fun p _=>by
   simp only[Function.comp,D6]
   congr 2
   exact D4 fun c _=>hc c
theorem Xt(M:Rel P w g base σ a)(t:Tok)(V:t.1≠1000001)(W:Nat):Rel P w { g with ρ:=fun u=>if u=t then W else g.ρ u } base (σ.map (bv t)) a:=
 M.drop (jN (fun b o u h1 U=>⟨U,h1⟩) (fun b O _ _ _=>⟨rfl,rfl,rfl⟩) (fun O y=>⟨j7 y,rfl,rfl,rfl⟩) rfl (fun _ _=>rfl)) rfl (fun _ _ _ _=>⟨rfl,rfl,rfl⟩) M.fresh (i8 _) (fun _ _=>⟨rfl,rfl,rfl⟩) rfl (fun O y=>⟨j7 (lH V y),rfl,fun b J _=>⟨J,rfl⟩⟩) (fun _ _ _ J=>⟨J,rfl,rfl⟩)
theorem EG(W:Rel P w g base σ a){t s y:Tok}(O:t.1≠1000001)(U:s.1≠1000001){f:List (Nat × Nat)->List (Nat × Nat)}{top:Option (List (Nat × Nat))}(Y:y≠t){J:Bool}{e:TypeId}{row:List S}{rows:List b8}{v:Value}(M:br P e=some row)(h:dX P w g base y J e row rows v):dX P w (wL g t s f top) base y J e row rows v:=by
 have:=(zB (s:=s) (f:=f) (top:=top) (t:=t) W O U).1 (.own y J e) (.l rows) v ⟨row,M,h⟩;change VC P w _ base (bif y==t then (bif J then .any else .d (.sl e)) else .own y J e) _ _ at this;rw[show (y==t)=false from by simpa using Y,f9] at this;obtain⟨Z,h1,V⟩:=this;rw[M] at h1;injection h1 with h1;subst h1
 exact V
theorem ajr{t s:Tok}{f:List (Nat × Nat)->List (Nat × Nat)}{top:Option (List (Nat × Nat))}(J:s≠t){π:List (Nat × Nat)}(y:π ≠ []){s':S}{x:D}{v:Value}(h:TR P w (mC base g s) π s' x v):TR P w (mC base (wL g t s f top) s) π s' x v:=
 TR.mono (fun π=>π) (fun _ _ _=>rfl) h (fun b π n o _ hl U=>⟨U,by obtain⟨V,M,Y,Z,O,W⟩:=hl;have:=lh (g:=g) (t:=t) (s:=s) (f:=f) (top:=top) (b:=b) (by rw[M];intro e;injection e with e;injection e with e;exact J e);exact⟨V,this.1.trans M,Y,this.2.1.trans Z,this.2.2.trans O,W⟩⟩) y
theorem agL{t s:Tok}{π:List (Nat × Nat)}{e:TypeId}{row:List S}{x:D}{v:Value}(M:br P e=some row)(h:dX P w g base t true e row x.rows v)(y:bq t=true\/row.all S.flat=true)(Y:∀b,g.owner b=some (.inr t)->b≠g.ρ s) :
  TR P w (mC base (wL g t s (fun q=>π++q) (some π)) s) π (.sl e) x v:=by
 rcases h with⟨h0,_,A,rfl⟩ | ⟨cap,arr,E,rfl,h2,⟨h3,rfl,h3'⟩,h4,h5,h6,h7,h8,h9,h10,h11⟩
 ·exact .nil _ _ _ _ (by rw[M];rfl) h0
 ·refine .sl _ E x _ cap row arr (fun i j=>arr[i*row.length+j]?.getD undef) M h2 h3 ⟨h4,?_,Y _ h5,?_,?_,?_⟩ h6 h7 (fun i j hi hj=>?_) (fun i j s' hi O=>?_)
  ·show (if g.owner (g.ρ t)=some (.inr t) then _ else _)=_;rw[m6 h5,m6 rfl];rfl
  ·show (if g.owner (g.ρ t)=some (.inr t) then _ else _)=_;rw[m6 h5,m6 rfl];rfl
  ·show (if g.owner (g.ρ t)=some (.inr t)/\g.ρ t=g.ρ t then _ else _)=_;rw[m6 ⟨h5,rfl⟩,h8,h9]
  ·rw[show (wL g t s (fun q=>π++q) (some π)).prot=g.prot from rfl,h10];rfl
  ·obtain⟨u,U,_⟩:=h11 i j _ hi (g9 hj);rw[U];rfl
  ·obtain⟨u,U,Z⟩:=h11 i j s' hi O;simp only[U];change TR P w _ _ s' _ u;cases J:bq t with
   | true =>
    refine TR.mono (fun q=>π++q) (fun q x _=>(C0 _ _ _).symm) (Z.tr J) (fun b q n o _ hl ho=>⟨ho,?_⟩) (by simp);obtain⟨l0,V,W,l3,l4,l5⟩:=hl;refine⟨l0,?_,Y _ V,?_,?_,l5⟩
    ·show (if g.owner b=some (.inr t) then _ else _)=_;rw[m6 V,j7 W]
    ·show (if g.owner b=some (.inr t) then _ else _)=_;rw[m6 V,j7 W,l3]
    ·show (if g.owner b=some (.inr t)/\b=g.ρ t then _ else _)=_;rw[j7 (fun e=>W e.2)];exact l4
   | false =>
    rcases y with y | y
    ·rw[J] at y;cases y
    ·exact TR.of_flat (Z.vd J) (i9.1 y s' (A2 O))
theorem pA{s:Tok}{i:Nat}:∀ {cs:List Ce} {ds:b8} {us:List Value} {j0:Nat} {g:G} {σ:St},Rel P w g base σ a->(∀(k:Nat) c,cs[k]?=some c->∃u,us[k]?=some u/\VC P w g base c (gd ds k) u)->cs.all (pd P)=true->cM (toks cs)=true->(toks cs).contains s=false->(toks cs = []\/s.1≠1000001) ->
  (∀b t,t≠s->g.owner b=some (.inr t)->b≠g.ρ s)->∃g',Rel P w g' base (oM (toks cs) σ) a/\(g'.ρ=g.ρ/\g'.len=g.len/\g'.wid=g.wid/\g'.ety=g.ety/\g'.θ=g.θ/\g'.prot=g.prot) /\
   ((∀b t,t≠s->g'.owner b=some (.inr t)->b≠g'.ρ s)/\∀b,g.owner b=some (.inr s)->g'.owner b=some (.inr s)) /\
   (∀ {π:List (Nat × Nat)} {s':S} {x:D} {v:Value},π ≠ []->TR P w (mC base g s) π s' x v->TR P w (mC base g' s) π s' x v) /\
   (∀ {t:Tok} {W:Bool} {e:TypeId} {row:List S} {rows:List b8} {v:Value},(toks cs).contains t=false->br P e=some row->dX P w g base t W e row rows v->dX P w g' base t W e row rows v) /\
   ∀(k:Nat) c s',cs[k]?=some c->c.toS=some s'->∃u,us[k]?=some u/\TR P w (mC base g' s) [(i,j0+k)] s' (gd (oy cs ds) k) u
 | [],ds,us,j0,g,σ,hr,hv,hd,hn,hs,J,hρ=>⟨g,hr,⟨rfl,rfl,rfl,rfl,rfl,rfl⟩,⟨hρ,fun _ h=>h⟩,fun _ h=>h,fun _ _ h=>h,fun k c s' h=>by simp at h⟩
 | U::cs,ds,us,j0,g,σ,hr,hv,hd,hn,hs,J,hρ=>by
  simp only[N4,a9] at hd;obtain⟨u0,a2,Y⟩:=hv 0 U rfl;have Z:∀k,us[k+1]?=us.tail[k]?:=fun k=>by cases us <;> simp
  have plain:toks (U::cs)=toks cs->(∀s',U.toS=some s'->∃u,us[0]?=some u/\∀g':G,TR P w (mC base g' s) [(i,j0)] s' (U.toD (gd ds 0)) u)->∃g',Rel P w g' base (oM (toks (U::cs)) σ) a/\(g'.ρ=g.ρ/\g'.len=g.len/\g'.wid=g.wid/\g'.ety=g.ety/\g'.θ=g.θ/\g'.prot=g.prot) /\
   ((∀b t,t≠s->g'.owner b=some (.inr t)->b≠g'.ρ s)/\∀b,g.owner b=some (.inr s)->g'.owner b=some (.inr s)) /\
   (∀ {π:List (Nat × Nat)} {s':S} {x:D} {v:Value},π ≠ []->TR P w (mC base g s) π s' x v->TR P w (mC base g' s) π s' x v) /\
   (∀ {t:Tok} {W:Bool} {e:TypeId} {row:List S} {rows:List b8} {v:Value},(toks (U::cs)).contains t=false->br P e=some row->dX P w g base t W e row rows v->dX P w g' base t W e row rows v) /\
   ∀(k:Nat) c s',(U::cs)[k]?=some c->c.toS=some s'->∃u,us[k]?=some u/\TR P w (mC base g' s) [(i,j0+k)] s' (gd (oy (U::cs) ds) k) u:=by
   intro ht h0;rw[ht] at hn hs J ⊢;obtain⟨g',k1,k2,k3,k4,k5,k6⟩:=pA (i:=i) (us:=us.tail) (ds:=ds.tail) (j0:=j0+1) hr (fun k c hc=>by obtain⟨u,h1,M⟩:=hv (k+1) c (by simpa using hc);exact⟨u,by rw[<- Z];exact h1,by rw[fq];exact M⟩) hd.2 hn hs J hρ;refine⟨g',k1,k2,k3,k4,k5,fun k c s' hc O=>?_⟩;cases k with
   | zero =>simp only[p9,b7] at hc;subst hc;obtain⟨u,h1,M⟩:=h0 s' O;exact⟨u,h1,M g'⟩
   | succ k =>obtain⟨u,h1,M⟩:=k6 k c s' (by simpa using hc) O;refine⟨u,by rw[Z];exact h1,?_⟩;rw[oy,ap,show j0+(k+1)=j0+1+k from by omega];exact M
  cases U with
  | d s0 =>
   refine plain rfl fun s' V=>⟨u0,a2,fun g'=>?_⟩
   simp only[Ce.toS,b7] at V;subst V;exact TR.of_flat (prot:=g.prot) Y (by simpa [pd] using hd.1)
  | kb b =>
   refine plain rfl fun s' V=>⟨u0,a2,fun g'=>?_⟩
   simp only[Ce.toS,b7] at V;subst V;have Y:u0=.bool b:=Y;subst Y;exact TR.bool _ (.b b)
  | own t W e =>
   cases W with
   | false=>simp[pd] at hd
   | true =>
    simp only[toks,cM,a9,o8,J6,I3] at hn hs;have a0:s≠t:=by simpa using hs.1
    obtain⟨row,a4,a6⟩:=Y;have b0:bq t=true\/row.all S.flat=true:=by have:=hd.1;simp only[pd,EB,a4,B6,a9] at this;exact this.2
    have a3:t.1≠1000001:=by have:=hd.1;simp only[pd,a9,I8,ne_eq] at this;exact this.1
    have J:s.1≠1000001:=by
     rcases J with h | h
     ·simp[toks] at h
     ·exact h
    have b1:=(zB (t:=t) (s:=s) (f:=fun q => [(i,j0)]++q) (top:=some [(i,j0)]) hr a3 J).2;obtain⟨g',k1,k2,k3,k4,k5,k6⟩:=pA (i:=i) (us:=us.tail) (ds:=ds.tail) (j0:=j0+1) b1 (fun k c hc=>by
     obtain⟨u,h1,M⟩:=hv (k+1) c (by simpa using hc);refine⟨u,by rw[<- Z];exact h1,?_⟩;rw[fq];have b2:=i9.1 hd.2 c (A2 hc);cases c with
     | d s1=>exact M
     | kb b=>exact M
     | own t1 x1 e1 =>obtain⟨a8,q1,q2⟩:=M;refine⟨a8,q1,EG hr a3 J (fun e=>?_) q1 q2⟩;subst e;have:=Du (A2 hc);have h3:=A3.2 this;rw[hn.1] at h3;cases h3
     | _=>simp[pd] at b2) hd.2 hn.2 hs.2 (.inr J) (fun b t' a1 y=>by
      refine hρ b t' a1 ?_;change (if g.owner b=some (.inr t) then _ else _)=_ at y
      split at y
      ·exfalso
       split at y
       ·simp only[B1,if_true] at y;injection y with y;injection y with y;exact a1 y.symm
       ·injection y with y;injection y with y;exact a1 y.symm
      ·exact y)
    have a7:=agL (s:=s) (π:= [(i,j0)]) a4 a6 b0 (fun b y=>hρ b t (Ne.symm a0) y);refine⟨g',k1,k2,⟨k3.1,fun b hb=>k3.2 b (by show (if g.owner b=some (.inr t) then _ else _)=_;rw[j7 (by rw[hb];intro e;injection e with e;injection e with e;exact a0 e)];exact hb)⟩,fun a5 h=>k4 a5 (ajr a0 a5 h),fun {t2 W e2 row2 rows2 v2} ht2 hr2 h=>?_,fun k c s' hc O=>?_⟩
    ·simp only[toks,J6,I3] at ht2;exact k5 ht2.2 hr2 (EG hr a3 J (by simpa using ht2.1) hr2 h)
    ·cases k with
     | zero =>simp only[p9,b7] at hc;subst hc;simp only[Ce.toS,b7] at O;subst O;exact⟨u0,a2,k4 (by simp) a7⟩
     | succ k =>obtain⟨u,h1,M⟩:=k6 k c s' (by simpa using hc) O;refine⟨u,by rw[Z];exact h1,?_⟩;rw[oy,ap,show j0+(k+1)=j0+1+k from by omega];exact M
  | _=>simp[pd] at hd
theorem Xl{x:T}{J:Option Tok}{e:TypeId}{rows:List b8}{v:Value}(h:x.slice=some (J,e,rows))(Z:VT P w g base x v) :
  ∃A c row,v=.slice A rows.length c/\br P e=some row/\∀(i j:Nat) s,i<rows.length->row[j]?=some s->∃b o z,A=some ⟨b,o,none⟩/\w.cell? ⟨b,o+(i*row.length+j),none⟩=some z/\(Bj J=false->VD P w g.prot s (gd (rows.getD i []) j) z)/\(∀t,J=some t->cL P base w g t true i j s (gd (rows.getD i []) j) z):=by
 obtain⟨A,c,rfl,h1,h2,row,W,hv⟩:=Mu h Z;refine⟨A,c,row,rfl,W,fun i j s hi M=>?_⟩;cases J with
 | none =>obtain⟨b,o,z,y,O,_,U⟩:=hv i j s hi M;exact⟨b,o,z,y,O,fun _=>U,fun t e=>by cases e⟩
 | some t =>
  rcases hv with⟨Y,_⟩ | ⟨cap,arr,E,y,O,k3,U,k5,k6,k7,k8,k9,k10,k11⟩
  ·rw[Y] at hi;simp at hi
  ·injection y with y _ _
   obtain⟨z,j1,j2⟩:=k11 i j s hi M;refine⟨_,_,z,y,?_,fun V=>j2.vd V,fun t e=>by injection e with e;subst e;exact j2⟩;simp only[World.cell?,k6,m0];exact j1
theorem wv{J e n:Nat}{A M:Option Addr}{y cap c:Nat}(V:P.underlying J=some (.slice e))(Y:fp P e=some n)(O:y<=cap)(W:TypeId) :
  (Builtin.append_ #[J,J] W #[.slice A y cap,.slice M 0 c]).run P w=.ok (.slice A y cap) w:=by
 have U:(Builtin.firstCells n 0 (.slice M 0 c)).run P w=.ok #[] w:=by
  cases M with
  | none=>simp[Builtin.firstCells]
  | some x=>simp[Builtin.firstCells,loadCells,loadCellsFrom]
 unfold Builtin.append_;simp only[G6,p9,J0,l8,run_underlying V,i5,fH Y,m9,Builtin.lenOf,F8];simp only[y4,if_false,l8,m9,i5,Builtin.lenOf,F8,m6 O,A4,if_true,U];cases A with
 | none=>simp
 | some x=>simp[storeCells]
theorem Te(hr:Rel P w g base σ a){tt e:TypeId}{row:List S}(ht:mg P tt=some e)(d3:br P e=some row)(hz:jV P e row=true)(e9:DU P e=true){t:Tok}{b6:Bool}{rows y:List b8}{u v:Value}
  (U:dX P w g base t b6 e row rows u) (hy:∃A c,v=.slice A y.length c/\∀(i j:Nat) s,i<y.length->row[j]?=some s->∃b o z,A=some ⟨b,o,none⟩/\w.cell? ⟨b,o+(i*row.length+j),none⟩=some z/\cL P base w g t b6 (rows.length+i) j s (gd (y.getD i []) j) z)
  (c4:(rows++y).length<=4294967296) (ty:TypeId) (c3:t.1≠1000001) :
  ∃v' w' g',(Builtin.append_ #[tt,tt] ty #[u,v]).run P w=.ok v' w'/\Rel P w' g' base (σ.map (bv t)) a/\dX P w' g' base t b6 e row (rows++y) v'/\Below base w w':=by
 generalize f2:b6=b at *;obtain⟨A,c,rfl,hy⟩:=hy;have d1:=iz d3;have c5:=mZ d3;have hu:=iM ht;rw[i6] at c4;by_cases hm:y.length=0
 ·have e0:y = []:=v7 hm;subst e0;have hk:jr P base g g w w (bv t):=jN (fun b o u h1 h2=>⟨h2,h1⟩) (fun b t' _ _ _=>⟨rfl,rfl,rfl⟩) (fun _ _=>⟨rfl,rfl,rfl,rfl⟩) rfl (fun _ _=>rfl);have a7:Rel P w g base (σ.map (bv t)) a:=hr.drop hk rfl (fun _ _ _ _=>⟨rfl,rfl,rfl⟩) hr.fresh (i8 _) (fun _ _=>⟨rfl,rfl,rfl⟩) rfl (fun _ _=>⟨rfl,rfl,fun _ M _=>⟨M,rfl⟩⟩) (fun _ _ _ M=>⟨M,rfl,rfl⟩);rw[D9];rcases U with⟨h0,h1,A0,rfl⟩ | ⟨cap,O,E,rfl,h2,rest⟩
  ·exact⟨_,w,g,wv hu d1 (i8 _) ty,a7,.inl ⟨h0,h1,A0,rfl⟩,Below.refl _ _⟩
  ·exact⟨_,w,g,wv hu d1 h2 ty,a7,.inr ⟨cap,O,E,rfl,h2,rest⟩,Below.refl _ _⟩
 ·obtain⟨ti,v0,hi,d5,f1⟩:=qd hz;obtain⟨f3,a4,hb⟩:=MQ e9;rw[hi] at a4;injection a4 with a4;subst a4;have b3:ti.size=row.length:=by have:=d1;unfold fp at this;rw[hi] at this;injection this
  obtain⟨d4,_⟩:=Fe f1;have d4:v0.cells.size=row.length:=by simpa using d4
  obtain⟨b0,o0,_,hA,_⟩:=hy 0 0 _ (by omega) (g9 c5);subst hA;have d6:∀(i j:Nat) s,i<y.length->row[j]?=some s->∃z,w.cell? ⟨b0,o0+(i*row.length+j),none⟩=some z/\cL P base w g t b (rows.length+i) j s (gd (y.getD i []) j) z:=fun i j s h1 h2=>by obtain⟨b,o,z,k1,k2,k3⟩:=hy i j s h1 h2;injection k1 with k1;injection k1 with e1 e2 _;subst e1;subst e2;exact⟨z,k2,k3⟩
  let J:List Value:=List.ofFn (n:=y.length*row.length) fun j=>(w.cell? ⟨b0,o0+j.1,none⟩).getD undef
  have a6:J.length=y.length*row.length:=by simp[J]
  have c8:∀j,j<y.length*row.length->∃z,J[j]?=some z/\w.cell? ⟨b0,o0+j,none⟩=some z/\z.oneCell'=true:=fun j hj=>by
   have e7:j % row.length<row.length:=Nat.mod_lt _ c5;obtain⟨z,k1,k2⟩:=d6 (j / row.length) (j % row.length) _ ((M7 c5).2 hj) (g9 e7);have e:j / row.length*row.length+j % row.length=j:=by rw[L8];exact Nat.div_add_mod j row.length
   rw[e] at k1;refine⟨z,?_,k1,pj k2.flat⟩;rw[g9 (by rw[a6];exact hj)];simp[J,k1]
  have a8:∀j z,J[j]?=some z->w.cell? ((⟨b0,o0,none⟩:Addr).add j)=some z:=fun j z hj=>by
   have c9:=(g7.1 hj).1;obtain⟨z',h1,h2,_⟩:=c8 j (by rw[<- a6];exact c9);rw[hj] at h1;injection h1 with h1;subst h1
   rw[qT];exact h2
  have e6:∀z∈J,z.oneCell'=true:=fun z hz=>by obtain⟨j,hj⟩:=F9 hz;have c9:=(g7.1 hj).1;obtain⟨z',h1,_,h3⟩:=c8 j (by rw[<- a6];exact c9);rw[hj] at h1;injection h1 with h1;subst h1;exact h3
  have d7:∀(i j:Nat) s,i<y.length->row[j]?=some s->∃z,J[i*row.length+j]?=some z/\cL P base w g t b (rows.length+i) j s (gd (y.getD i []) j) z:=fun i j s h1 h2=>by
   obtain⟨z,k1,k2⟩:=d6 i j s h1 h2;have hj:=(g7.1 h2).1;have a5:i*row.length+j<y.length*row.length:=by have:(i+1)*row.length<=y.length*row.length:=z7 _ h1;rw[E3] at this;omega
   obtain⟨z',Y,Z,_⟩:=c8 _ a5;rw[k1] at Z;injection Z with Z;subst Z;exact⟨z,Y,k2⟩
  have c6:∀i,i<rows.length+y.length->(rows++y).getD i []=if i<rows.length then rows.getD i [] else y.getD (i - rows.length) []:=fun i hi=>by
   rw[g4,A5]
   split
   ·rw[g4]
   ·rw[g4]
  have b4:(rows.length+y.length)*ti.bytes<=140737488355328:=by have:=Nat.mul_le_mul c4 hb;omega
  -- a new block
  have grow:∀(a2:List Value) (old:Nat),a2.length=rows.length*row.length->(∀(i j:Nat) s,i<rows.length->row[j]?=some s->∃z,a2[i*row.length+j]?=some z/\cL P base w g t b i j s (gd (rows.getD i []) j) z) ->
    (Builtin.append_ #[tt,tt] ty #[u,.slice (some ⟨b0,o0,none⟩) y.length c]).run P w=.ok (.slice (some ⟨w.heap.size,0,none⟩) (rows.length+y.length) (grownCap w (rows.length+y.length) old e))
     (w.drew.alloc (.cells (a2.toArray++J.toArray++Builtin.zeroCells v0.cells (grownCap w (rows.length+y.length) old e - (rows.length+y.length))) e)) ->
    ∃v' w' g',(Builtin.append_ #[tt,tt] ty #[u,.slice (some ⟨b0,o0,none⟩) y.length c]).run P w=.ok v' w'/\Rel P w' g' base (σ.map (bv t)) a/\dX P w' g' base t b e row (rows++y) v'/\Below base w w':=by
   intro a2 old b1 e8 b2;have f0:=grownCap_ge w (rows.length+y.length) old e;have d8:=grownCap_le_maxLen w (rows.length+y.length) old e (by unfold maxLen;omega);unfold maxLen at d8
   let O:Array Value:=a2.toArray++J.toArray++Builtin.zeroCells v0.cells (grownCap w (rows.length+y.length) old e - (rows.length+y.length))
   let g':G:={ prot:=fun x=>if x=w.heap.size then (if b then 0 else (rows.length+y.length)*row.length) else g.prot x,owner:=fun x=>if x=w.heap.size then some (.inr t) else g.owner x,θ:=g.θ, ρ:=fun u=>if u=t then w.heap.size else g.ρ u,len:=fun u=>if u=t then rows.length+y.length else g.len u,wid:=fun u=>if u=t then row.length else g.wid u,ety:=fun u=>if u=t then e else g.ety u,path:=g.path,need:=g.need,old:=g.old }
   have W:∀x,x<w.heap.size->(w.drew.alloc (.cells O e)).heap[x]?=w.heap[x]?:=fun x U=>Below.heap_alloc w.drew _ x U
   have c1:(w.drew.alloc (.cells O e)).heap.size=w.heap.size+1:=by simp
   have a1:∀x o z,o<g.prot x->w.cell? ⟨x,o,none⟩=some z->(w.drew.alloc (.cells O e)).cell? ⟨x,o,none⟩=some z/\o<g'.prot x:=fun x o z h1 h2=>by have a5:=dW h2;exact⟨(bg (W x a5) o).trans h2,by show o<(if x=w.heap.size then _ else _);rw[j7 (by omega)];exact h1⟩
   have c2:∀ {i j:Nat} {s:S} {x:D} {z:Value},cL P base w g t b i j s x z->cL P base (w.drew.alloc (.cells O e)) g' t b i j s x z:=fun h =>h.mono rfl a1 (fun _ x o h0 M a3 hb=>by have a5:=aP hb;exact⟨(W x a5).trans hb,h0,by show (if x=w.heap.size then _ else _)=_;rw[j7 (by omega)];exact M,by show x≠(if t=t then w.heap.size else _);rw[m6 rfl];omega,rfl,rfl,fun e=>by show (if x=w.heap.size then _ else _)=_;rw[j7 (by omega)];exact e⟩)
   have hk:jr P base g g' w (w.drew.alloc (.cells O e)) (bv t):=by
    refine jN a1 (fun x t' _ _ U=>⟨W x U,?_,?_⟩) (fun t' V=>⟨j7 V,j7 V,j7 V,j7 V⟩) rfl (fun x U=>W x (hr.low.2.1 x U).2.2.2)
    ·show (if x=w.heap.size then _ else _)=_;rw[j7 (by omega)]
    ·show (if x=w.heap.size then _ else _)=_;rw[j7 (by omega)]
   have a7:Rel P (w.drew.alloc (.cells O e)) g' base (σ.map (bv t)) a:=by
    refine hr.drop hk rfl (fun x id _ U=>⟨W x U,?_,?_⟩) (fun x U=>?_) (by rw[c1];omega) (fun x U=>by
     have:=(hr.low.2.1 x U).2.2.2;exact⟨by show (if x=w.heap.size then _ else _)=_;rw[j7 (by omega)],by show (if x=w.heap.size then _ else _)=_;rw[j7 (by omega)],W x this⟩) rfl (fun t' V=>⟨j7 (lH c3 V),j7 (lH c3 V),fun x M U=>⟨by show (if x=w.heap.size then _ else _)=_;rw[j7 (by omega)];exact M,W x U⟩⟩) (fun x t' V M=>by
     change (if x=w.heap.size then _ else _)=_ at M
     split at M
     ·injection M with M;injection M with M;exact absurd M.symm (lH c3 V)
     ·exact⟨M,rfl,rfl⟩)
    ·show (if x=w.heap.size then _ else _)=_;rw[j7 (by omega)]
    ·show (if x=w.heap.size then _ else _)=_;rw[j7 (by omega)]
    ·rw[c1] at U;have:=hr.fresh x (by omega);exact⟨by show (if x=w.heap.size then _ else _)=_;rw[j7 (by omega)];exact this.1,by show (if x=w.heap.size then _ else _)=_;rw[j7 (by omega)];exact this.2⟩
   refine⟨_,_,g',b2,a7,.inr ⟨_,O,e,?_,by rw[i6];exact f0,⟨d8,rfl,(m6 rfl:g'.ety t=e).symm⟩,?_,?_,?_,?_,?_,(m6 rfl:g'.wid t=row.length).symm,?_,?_⟩,?_⟩
   ·rw[i6,show g'.ρ t=w.heap.size from m6 rfl]
   ·rw[show g'.ρ t=w.heap.size from m6 rfl];exact hr.base_le
   ·rw[show g'.ρ t=w.heap.size from m6 rfl];exact m6 rfl
   ·rw[show g'.ρ t=w.heap.size from m6 rfl];exact gH w.drew _
   ·show (a2.toArray++J.toArray++Builtin.zeroCells v0.cells _).size=_;simp only[D2,B8,size_zeroCells,b1,a6,d4,<- F6]
    congr 1;omega
   ·rw[i6];exact (m6 rfl:g'.len t=_).symm
   ·rw[show g'.ρ t=w.heap.size from m6 rfl,show g'.len t=rows.length+y.length from m6 rfl,show g'.wid t=row.length from m6 rfl];exact m6 rfl
   ·intro i j s hi hs;rw[i6] at hi;have hj:=(g7.1 hs).1;rw[c6 i hi];by_cases h1:i<rows.length
    ·rw[m6 h1];obtain⟨z,Y,Z⟩:=e8 i j s h1 hs;refine⟨z,?_,c2 Z⟩;have a5:=(g7.1 Y).1;show (a2.toArray++J.toArray++_)[i*row.length+j]?=_;rw[J7,v5 (by simpa using a5)];simpa using Y
    ·rw[j7 h1];obtain⟨z,Y,Z⟩:=d7 (i - rows.length) j s (by omega) hs;refine⟨z,?_,by have:=c2 Z;rwa [show rows.length+(i - rows.length)=i from by omega] at this⟩;have a5:=(g7.1 Y).1;have e1:i*row.length+j=rows.length*row.length+((i - rows.length)*row.length+j):=by rw[<- u4,<- F6];congr 2;omega
     show (a2.toArray++J.toArray++_)[i*row.length+j]?=_;rw[v5 (by simp[b1];omega),D7 (by simp[b1];omega)];simp only[B8,b1,e1,J1];simpa using Y
   ·exact⟨rfl,rfl,rfl,by rw[c1];omega,fun x U=>W x (B0 U hr.base_le)⟩
  rcases U with⟨h0,h1,A0,rfl⟩ | ⟨cap,O,E,rfl,h2,⟨h3,rfl,h3'⟩,h4,h5,h6,h7,h8,h9,h10,h11⟩
  ·subst h0;simp only[z8,m0] at grow c4 b4 ⊢;refine grow [] 0 (by simp) (fun i j s hi=>by simp at hi) ?_;cases A0 with
   | none =>have:=run_append_nil (P:=P) w tt ty e ti v0 hu hi d5 ⟨b0,o0,none⟩ y.length c J (by rw[a6,b3]) a8 (by omega) (by omega) (by omega);simpa using this
   | some ad =>have:=run_append_grow (P:=P) w tt ty e ti v0 hu hi d5 ad 0 0 [] (by simp) (fun j v h=>by simp at h) ⟨b0,o0,none⟩ y.length c J (by rw[a6,b3]) a8 (by omega) (by omega) (by simpa using growslice_fits (by omega) b4);simpa using this
  ·by_cases b5:rows.length+y.length<=cap
   ·have c0:rows.length*row.length+J.length<=O.size:=by rw[a6,h7,<- F6];exact z7 _ b5
    have b2:=run_append_room (P:=P) w tt ty E ti hu hi (g.ρ t) rows.length cap O h6 ⟨b0,o0,none⟩ y.length c J (by rw[a6,b3]) a8 e6 b5 (by rw[b3];exact c0);rw[b3] at b2;change _=Result.ok _ (w.setRow (g.ρ t) (iR O (rows.length*row.length) J)) at b2
    let g':G:={ g with prot:=fun x=>if x=g.ρ t then (if b then 0 else (rows.length+y.length)*row.length) else g.prot x,len:=fun u=>if u=t then rows.length+y.length else g.len u }
    have a0:∀x,x≠g.ρ t->(w.setRow (g.ρ t) (iR O (rows.length*row.length) J)).heap[x]?=w.heap[x]?:=fun x U=>setRow_other w (g.ρ t) x _ U
    have c7:(w.setRow (g.ρ t) (iR O (rows.length*row.length) J)).heap[g.ρ t]?=some (.cells (iR O (rows.length*row.length) J) E (0,0)):=setRow_heap w _ O _ E _ h6;have d2:(w.setRow (g.ρ t) (iR O (rows.length*row.length) J)).heap.size=w.heap.size:=by simp[World.setRow]
    have a1:∀x o z,o<g.prot x->w.cell? ⟨x,o,none⟩=some z->(w.setRow (g.ρ t) (iR O (rows.length*row.length) J)).cell? ⟨x,o,none⟩=some z/\o<g'.prot x:=fun x o z Y Z=>by
     by_cases U:x=g.ρ t
     ·subst U;rw[h10] at Y;cases b with
      | true=>simp at Y
      | false =>
       simp only[y4,if_false] at Y;rw[<- h8,<- h9] at Y;refine⟨?_,?_⟩
       ·simp only[World.cell?,c7,L1,y4,if_false];rw[Et _ _ _ c0,j7 (by omega)];simp only[World.cell?,h6,L1,y4,if_false] at Z;exact Z
       ·show o<(if g.ρ t=g.ρ t then _ else _);rw[m6 rfl];simp only[y4,if_false,F6];omega
     ·exact⟨(bg (a0 x U) o).trans Z,by show o<(if x=g.ρ t then _ else _);rw[j7 U];exact Y⟩
    have c2:∀ {i j:Nat} {s:S} {x:D} {z:Value},cL P base w g t b i j s x z->cL P base (w.setRow (g.ρ t) (iR O (rows.length*row.length) J)) g' t b i j s x z:=fun h =>h.mono rfl a1 (fun _ x o h0 M a3 hb=>⟨(a0 x a3).trans hb,h0,M,a3,rfl,rfl,fun e=>by show (if x=g.ρ t then _ else _)=_;rw[j7 a3];exact e⟩)
    have hk:jr P base g g' w (w.setRow (g.ρ t) (iR O (rows.length*row.length) J)) (bv t):=by
     refine jN a1 (fun x t' V M U=>?_) (fun t' V=>⟨rfl,j7 V,rfl,rfl⟩) rfl (fun x U=>a0 x (hr.oldNe U h5));have a3:x≠g.ρ t:=by intro e;rw[e,h5] at M;injection M with M;injection M with M;exact V M.symm
     exact⟨a0 x a3,rfl,j7 a3⟩
    have a7:Rel P (w.setRow (g.ρ t) (iR O (rows.length*row.length) J)) g' base (σ.map (bv t)) a:=by
     refine hr.drop hk rfl (fun x id M U=>?_) (fun x U=>?_) (by rw[d2];exact i8 _) (fun x U=>⟨rfl,j7 (hr.oldNe U h5),a0 x (hr.oldNe U h5)⟩) rfl (fun t' V=>⟨rfl,j7 (lH c3 V),fun x M U=>⟨M,a0 x (by intro e;rw[e,h5] at M;injection M with M;injection M with M;exact lH c3 V M.symm)⟩⟩) (fun _ _ _ M=>⟨M,rfl,rfl⟩)
     ·have a3:x≠g.ρ t:=by intro e;rw[e,h5] at M;injection M with M;cases M
      exact⟨a0 x a3,rfl,j7 a3⟩
     ·rw[d2] at U;have a5:=aP h6;have:=hr.fresh x U;exact⟨by show (if x=g.ρ t then _ else _)=_;rw[j7 (by omega)];exact this.1,this.2⟩
    refine⟨_,_,g',b2,a7,.inr ⟨cap,_,E,by rw[i6],by rw[i6];exact b5,⟨h3,rfl,h3'⟩,h4,h5,c7,by rw[zQ _ _ _ c0];exact h7,by rw[i6];exact (m6 rfl:g'.len t=_).symm,h9,?_,?_⟩,?_⟩
    ·rw[show g'.len t=rows.length+y.length from m6 rfl,show g'.wid t=row.length from h9.symm];exact m6 rfl
    ·intro i j s a4 hs;rw[i6] at a4;have hj:=(g7.1 hs).1;rw[c6 i a4,Et _ _ _ c0];by_cases q:i<rows.length
     ·rw[m6 q];obtain⟨z,Y,Z⟩:=h11 i j s q hs;have:(i+1)*row.length<=rows.length*row.length:=z7 _ q;rw[E3] at this;exact⟨z,by rw[j7 (by omega)];exact Y,c2 Z⟩
     ·rw[j7 q];obtain⟨z,Y,Z⟩:=d7 (i - rows.length) j s (by omega) hs;have e1:i*row.length+j=rows.length*row.length+((i - rows.length)*row.length+j):=by rw[<- u4,<- F6];congr 2;omega
      have a5:=(g7.1 Y).1;refine⟨z,?_,by have:=c2 Z;rwa [show rows.length+(i - rows.length)=i from by omega] at this⟩;rw[m6 (by omega),e1,J1];exact Y
    ·exact⟨rfl,rfl,rfl,by rw[d2];exact i8 _,fun x U=>a0 x (by omega)⟩
   ·have b1:(O.toList.take (rows.length*row.length)).length=rows.length*row.length:=by
     have e1:O.toList.length=cap*row.length:=by simpa using h7
     rw[w5,e1];exact Nat.min_eq_left (z7 _ h2)
    refine grow (O.toList.take (rows.length*row.length)) cap b1 (fun i j s a4 hs=>?_) ?_
    ·obtain⟨z,Y,Z⟩:=h11 i j s a4 hs;have hj:=(g7.1 hs).1;have:(i+1)*row.length<=rows.length*row.length:=z7 _ a4;rw[E3] at this;exact⟨z,by rw[u9,m6 (by omega)];simpa using Y,Z⟩
    ·exact run_append_grow (P:=P) w tt ty E ti v0 hu hi d5 ⟨g.ρ t,0,none⟩ rows.length cap (O.toList.take (rows.length*row.length)) (by rw[b1,b3]) (fun j z hj=>by
      rw[u9] at hj
      split at hj
      ·rw[qT];simp only[World.cell?,h6,m0];simpa using hj
      ·cases hj) ⟨b0,o0,none⟩ y.length c J (by rw[a6,b3]) a8 (by omega) (by omega) (growslice_fits (by omega) b4)
theorem Yp(hr:Rel P w g base σ a){o:Oper}{c6:St}{d:Nat}{tt:TypeId}{x y:Operand}(ho:o.op=.call { callee:=.builtin .append,args:= #[x,y],argTypes:= #[tt,tt] })(a8:o.dst=some d)(hd:∀d,o.dst=some d->d<a.tmps.size)
  (h:Ml P σ d tt x y=some (c6,true)):Vl P base c6 o a w:=by
 unfold Ml at h
 split at h
 ·rename_i t b e tk e' a1 hsh hy;cases hc:(e==e'&&mg P tt==some e&&UC P e&&(bif bq t&&b then Bj tk&&tk != some t else !Bj tk)&&t.1 != 1000001&&tk.all (fun V=>V.1 != 1000001)) with
  | false=>rw[hc] at h;cases h
  | true =>
   rw[hc,g6] at h;simp only[b7,j8,a9,g5] at h;obtain⟨rfl,b1,c4⟩:=h;simp only[a9,u7] at hc;obtain⟨⟨⟨⟨⟨rfl,ht⟩,hz⟩,Y⟩,a0⟩,c9⟩:=hc;have a0:t.1≠1000001:=by simpa using a0
   unfold UC at hz;cases W:br P e with
   | none=>rw[W] at hz;cases hz
   | some row =>
    rw[W] at hz;simp only at hz;have b2:=dO hr x;have b2:VC P w g base (.own t b e) (gd (opd σ x).p 0) (a.eval x):=by generalize opd σ x=q at *;obtain⟨sh,p⟩:=q;simp only at hsh;subst hsh;exact b2
    obtain⟨d1,U,b4⟩:=b2;rw[W] at U;injection U with U;subst U;obtain⟨A,c,d1,c2,U,c5⟩:=Xl hy (dO hr y);rw[W] at U;injection U with U;subst U;cases a3:(bq t&&b) with
    | false =>rw[a3,f9] at Y;rw[f9];obtain⟨Z,w',g',k1,k2,k3,k4⟩:=Te hr ht W hz c4 b4 ⟨A,c,c2,fun i j s hi hs=>by obtain⟨b0,o0,z,q1,q2,q3,_⟩:=c5 i j s hi hs;exact⟨b0,o0,z,q1,q2,.of_vd (q3 (by simpa using Y)) (.inl a3)⟩⟩ b1 o.type a0;refine⟨Z,w',g',.inl ?_,k2.put hd (t:=.c (.own t b e) (.l _)) ⟨row,W,k3⟩ |> fun h=>by rw[a8] at h ⊢;exact h,k4⟩;simp only[execOp,ho,resolve,invoke,builtin,l8,m9,i5,List.map_toArray,w8,I2,k1]
    | true =>
     rw[a3,g6] at Y;rw[g6];simp only[a9] at Y a3;obtain⟨d3,rfl⟩:=a3;cases tk with
     | none=>simp[Bj] at Y
     | some V =>
      have a6:t≠V:=by have:=Y.2;simp at this;exact fun e=>this e.symm
      have c7:bq V=true:=Y.1
      let n0:=(gd (opd σ x).p 0).rows.length
      let fm:List (Nat × Nat)->List (Nat × Nat):=fun π=>match π with
       | [] => []
       | (i,j)::r=>(n0+i,j)::r
      have a7:∀ {M:G} {a2:St},Rel P w M base a2 a->dX P w M base t true e row (gd (opd σ x).p 0).rows (a.eval x)->(∀J,M.owner J=some (.inr V)->w.heap.size<=J\/J≠M.ρ t)->(∀J,M.owner J=g.owner J/\M.path J=g.path J/\M.need J=g.need J/\M.prot J=g.prot J)->M.ρ V=g.ρ V ->
        ∃Z w' g',(Builtin.append_ #[tt,tt] o.type #[a.eval x,a.eval y]).run P w=.ok Z w'/\Rel P w' g' base ((a2.map (bv V)).map (bv t)) a/\dX P w' g' base t true e row ((gd (opd σ x).p 0).rows++a1) Z/\Below base w w':=by
       intro M a2 a4 a5 c8 c0 d2;have b3:V.1≠1000001:=by simpa using c9
       obtain⟨d7,d4⟩:=zB (t:=V) (s:=t) (f:=fm) (top:=none) a4 b3 a0;have c1:=EG (s:=t) (f:=fm) (top:=none) a4 b3 a0 a6 W a5;refine Te d4 ht W hz c4 c1 ⟨A,c,c2,fun i j s hi hs=>?_⟩ b1 o.type a0;obtain⟨b0,o0,z,q1,q2,_,q3⟩:=c5 i j s hi hs;refine⟨b0,o0,z,q1,q2,.of_tr ?_ d3⟩;have:=TR.mono fm (fun π x c3=>by cases π with | nil=>exact absurd rfl c3 | cons p r=>rfl) ((q3 V rfl).tr c7) (w':=w) (lab':=mC base (wL M V t fm none) t) (fun J π n d5 c3 hl O=>⟨O,by
        obtain⟨l0,l1,l2,l3,l4,l5⟩:=hl;obtain⟨m1,m2,m3,m4⟩:=c0 J;have b5:M.owner J=some (.inr V):=m1.trans l1;have b6:J≠M.ρ V:=by rw[d2];exact l2
        refine⟨l0,?_,(c8 J b5).resolve_left (by have:=aP O;omega),?_,?_,m4.trans l5⟩
        ·show (if M.owner J=some (.inr V) then _ else _)=_;rw[m6 b5,j7 b6]
        ·show (if M.owner J=some (.inr V) then _ else _)=_;rw[m6 b5,j7 b6,m2,l3]
        ·show (if M.owner J=some (.inr V)/\J=M.ρ V then _ else _)=_;rw[j7 (fun e=>b6 e.2),m3];exact l4⟩) (by simp)
       exact this
      have fin:∀ {Z:Value} {w':World} {g':G},(Builtin.append_ #[tt,tt] o.type #[a.eval x,a.eval y]).run P w=.ok Z w'->Rel P w' g' base ((σ.map (bv V)).map (bv t)) a->dX P w' g' base t true e row ((gd (opd σ x).p 0).rows++a1) Z->Below base w w'->Vl P base (((oM (some V).toList σ).map (bv t)).put (some d) (.c (.own t true e) (.l ((gd (opd σ x).p 0).rows++a1)))) o a w:=by intro Z w' g' k1 k2 k3 k4;refine⟨Z,w',g',.inl ?_,k2.put hd (t:=.c (.own t true e) (.l _)) ⟨row,W,k3⟩ |> fun h=>by rw[a8] at h ⊢;exact h,k4⟩;simp only[execOp,ho,resolve,invoke,builtin,l8,m9,i5,List.map_toArray,w8,I2,k1]
      rcases b4 with hown' | hown'
      ·obtain⟨Z,w',g',k1,k2,k3,k4⟩:=a7 (Xt hr t a0 w.heap.size) (.inl ⟨hown'.1,hown'.2.1,hown'.2.2⟩) (fun J _=>by show _\/J≠(if t=t then w.heap.size else _);rw[m6 rfl];omega) (fun _=>⟨rfl,rfl,rfl,rfl⟩) (j7 (Ne.symm a6));refine fin k1 ?_ k3 k4;have e1:((σ.map (bv t)).map (bv V)).map (bv t)=(σ.map (bv V)).map (bv t):=RL t V σ;rw[e1] at k2;exact k2
      ·obtain⟨Z,w',g',k1,k2,k3,k4⟩:=a7 hr (.inr hown') (fun J O=>.inr fun e=>by obtain⟨cap,d6,E,h1,h2,h3,h4,h5,rest⟩:=hown';rw[e,h5] at O;injection O with O;injection O with O;exact a6 O) (fun _=>⟨rfl,rfl,rfl,rfl⟩) rfl;exact fin k1 k2 k3 k4
 ·cases h
theorem uD(s:Tok)(rows:List b8):∀(cs:List Ce) (ds:b8) (j:Nat) c,cs[j]?=some c->gd (rD s rows cs ds) j=akz s rows c (gd ds j)
 | [],ds,j,c,h=>by simp at h
 | c0::cs,ds,0,c,h=>by simp only[p9,b7] at h;subst h;rfl
 | c0::cs,ds,j+1,c,h=>by rw[rD,ap,uD s rows cs ds.tail j c (by simpa using h),fq]
theorem uT(s:Tok)(rows:List b8):∀(cs:List Ce) (ds:b8),(rD s rows cs ds).length=cs.length
 | [],_=>rfl
 | c::cs,ds=>by simp[rD,uT s rows cs ds.tail]
theorem Tp{O J:Type}{f:O->J}{l:List O}{j:Nat}{c:J}(h:(l.map f)[j]?=some c):∃y,l[j]?=some y/\f y=c:=by
 rw[w9] at h;cases M:l[j]? with
 | none=>rw[M] at h;cases h
 | some y=>rw[M] at h;injection h with h;exact⟨y,rfl,h⟩
theorem CO(F:List Ce->List Ce)(G:List Ce->b8->b8):∀(h:ul) (i:Nat),bS i (h.map fun p=>(p.1,F p.2.1,G p.2.1 p.2.2))=(bS i h).map fun q=>(F q.1,G q.1 q.2)
 | [],i=>by simp[bS]
 | (j,v)::e,i=>by simp only[w8,bS];rw[CO F G e i];cases i==j <;> rfl
theorem Fj{gs:G}{a1:St}(hr:Rel P w gs base a1 a){o:Oper}{t n off:Nat}{e:TypeId}{x p:Operand}{cs:List Ce}{ds:b8}{pp:b8}{y:Tok}{row ss:List S}{u0:Value}(ho:o.op=.store t p x)(hd:∀d,o.dst=some d->d<a.tmps.size)(hn:fp P t=some n)
  (d8:(a.eval x).cells.size=cs.length) (e7:∀v∈(a.eval x).cells.toList,v.oneCell'=true) (hl:cs.length=n) (d5:a.eval p=.pointer (some ⟨gs.ρ y,eIx (gd pp 0)*row.length+off,none⟩)) (b1:eIx (gd pp 0)<(eK (gd pp 0)).length) (f0:dX P w gs base y true e row (eK (gd pp 0)) u0)
  (e8:br P e=some row) (f1:∀(k:Nat) s,ss[k]?=some s->∃u,(a.eval x).cells[k]?=some u/\cL P base w gs y true (eIx (gd pp 0)) (off+k) s (gd (oy cs ds) k) u) (e0:(row.drop off).take n=ss) (l5:1<=n) (l4:off+n<=row.length) :
  Se P base (St.put (a1.setRows y ((eK (gd pp 0)).set (eIx (gd pp 0)) (fV (sub ((eK (gd pp 0)).getD (eIx (gd pp 0)) []) 0 row.length) off (oy cs ds)))) o.dst .none_) o p a w:=by
 generalize l2:eK (gd pp 0)=rows at *;generalize eIx (gd pp 0)=i at *;rcases f0 with⟨h0,_⟩ | ⟨cap,arr,E,h1,h2,⟨h3,hE,h3'⟩,h4,h5,h6,h7,h8,h9,h10,h11⟩
 ·rw[h0] at b1;simp at b1
 ·subst hE;have d6:(a.eval x).cells.toList.length=n:=by simp[d8,hl]
  have l7:i*row.length+row.length<=rows.length*row.length:=by rw[<- E3];exact z7 _ b1
  have a7:rows.length*row.length<=cap*row.length:=z7 _ h2;have b3:i*row.length+off+n<=arr.size:=by rw[h7];omega
  have c8:i*row.length+off+(a.eval x).cells.toList.length<=arr.size:=by rw[d6];exact b3
  have e6:=Jt (P:=P) (w:=w) (b:=gs.ρ y) (o:=i*row.length+off) hn (by rw[d8,hl]) h6 b3 e7;generalize i0:(a.eval x).cells.toList=vs at *;have W:∀b,b≠gs.ρ y->(w.setRow (gs.ρ y) (iR arr (i*row.length+off) vs)).heap[b]?=w.heap[b]?:=fun b hb=>setRow_other w (gs.ρ y) b _ hb
  have c5:(w.setRow (gs.ρ y) (iR arr (i*row.length+off) vs)).heap[gs.ρ y]?=some (.cells (iR arr (i*row.length+off) vs) E (0,0)):=setRow_heap w _ arr _ E _ h6;have b0:(w.setRow (gs.ρ y) (iR arr (i*row.length+off) vs)).heap.size=w.heap.size:=by simp[World.setRow]
  have c2:gs.prot (gs.ρ y)=0:=by rw[h10];rfl
  have b2:∀ {s:S} {x:D} {v:Value},VD P w gs.prot s x v->VD P (w.setRow (gs.ρ y) (iR arr (i*row.length+off) vs)) gs.prot s x v:=fun h =>h.mono fun b o u q1 V=>⟨(bg (W b (by rintro rfl;rw[c2] at q1;omega)) o).trans V,q1⟩
  have b4:∀ {M:Tok} {xm:Bool} {O j:Nat} {s:S} {d:D} {z:Value},cL P base w gs M xm O j s d z->cL P base (w.setRow (gs.ρ y) (iR arr (i*row.length+off) vs)) gs M xm O j s d z:=fun {M xm O j s d z} h =>
   h.mono rfl (fun b o u q1 V=>⟨(bg (W b (by rintro rfl;rw[c2] at q1;omega)) o).trans V,q1⟩) (fun _ b o h0 a3 d2 hb=>by
    have e9:b≠gs.ρ y:=by
     by_cases ht:M=y
     ·subst ht;exact d2
     ·intro e;rw[e,h5] at a3;injection a3 with a3;injection a3 with a3;exact ht a3.symm
    exact⟨(W b e9).trans hb,h0,a3,d2,rfl,rfl,fun e=>e⟩)
  generalize g3:fV (sub (rows.getD i []) 0 row.length) off (oy cs ds)=Y;have l0:(oy cs ds).length=n:=by
   have:∀(cs:List Ce) (ds:b8),(oy cs ds).length=cs.length:=by
    intro cs
    induction cs with
    | nil=>intro ds;rfl
    | cons c cs ih=>intro ds;simp[oy,ih]
   rw[this,hl]
  have c7:∀j,j<row.length->gd Y j=if off<=j/\j<off+n then gd (oy cs ds) (j - off) else gd (rows.getD i []) j:=fun j hj=>by rw[<- g3,SL _ _ _ _ (by rw[fB];exact hj),l0,fY _ _ _ _ hj,m0]
  have b6:(rows.set i Y).length=rows.length:=by simp
  have c6:∀(O j:Nat) s,O<rows.length->row[j]?=some s->∃u,(iR arr (i*row.length+off) vs)[O*row.length+j]?=some u/\cL P base (w.setRow (gs.ρ y) (iR arr (i*row.length+off) vs)) gs y true O j s (gd ((rows.set i Y).getD O []) j) u:=by
   intro O j s a6 hs;have hj:=(g7.1 hs).1;rw[Et _ _ _ c8,d6];have f3:(rows.set i Y).getD O []=if i=O then Y else rows.getD O []:=by
    rw[g4,L9];by_cases e:i=O
    ·subst e;simp[a6]
    ·simp[e,g4]
   rw[f3];by_cases hin:i*row.length+off<=O*row.length+j/\O*row.length+j<i*row.length+off+n
   ·have c1:i=O:=by
     rcases M0 i O with h | h | h
     ·exfalso
      have:(i+1)*row.length<=O*row.length:=z7 _ h;rw[E3] at this;omega
     ·exact h
     ·exfalso
      have:(O+1)*row.length<=i*row.length:=z7 _ h;rw[E3] at this;omega
    subst c1;rw[m6 hin,m6 rfl,c7 j hj,m6 (by omega)];have l1:ss[j - off]?=some s:=by rw[<- e0,u9,m6 (by omega),A6,show off+(j - off)=j from by omega];exact hs
    obtain⟨u,q1,V⟩:=f1 _ s l1;rw[show off+(j - off)=j from by omega] at V;refine⟨u,?_,b4 V⟩;rw[show i*row.length+j - (i*row.length+off)=j - off from by omega,<- i0];simpa using q1
   ·rw[j7 hin];obtain⟨u,q1,V⟩:=h11 O j s a6 hs;refine⟨u,q1,?_⟩;by_cases c1:i=O
    ·subst c1;rw[m6 rfl,c7 j hj,j7 (by omega)];exact b4 V
    ·rw[j7 c1];exact b4 V
  have c3:∀ {xm:Bool} {e':TypeId} {J:List S} {Z:List b8} {v:Value},br P e'=some J->dX P w gs base y xm e' J Z v->Z.length=(rows.set i Y).length/\dX P (w.setRow (gs.ρ y) (iR arr (i*row.length+off) vs)) gs base y xm e' J (rows.set i Y) v:=by
   intro xm e' J Z v a2 h;rcases h with⟨_,h,_⟩ | ⟨cap',U,E',k1,k2,⟨k3,kE,k3'⟩,k4,k5,k6,k7,k8,k9,k10,k11⟩
   ·omega
   ·have ee:e'=E:=by rw[k3',h3']
    subst ee;rw[e8] at a2;injection a2 with a2;subst a2
    rw[h6] at k6;injection k6 with k6
    injection k6 with q1 V q3
    subst q1;have b5:Z.length=(rows.set i Y).length:=by rw[b6,k8,h8]
    refine⟨b5,.inr ⟨cap',_,e',by rw[k1,b5],by rw[<- b5];exact k2,⟨k3,rfl,k3'⟩,k4,k5,by rw[c5,V,kE],by rw[zQ _ _ _ c8];exact k7,by rw[<- b5];exact k8,k9,k10,fun O j s a6 hs=>?_⟩⟩;have i2:O<rows.length:=by rw[<- b6];exact a6
    obtain⟨z,z1,z2⟩:=c6 O j s i2 hs;cases xm with
    | true=>exact⟨z,z1,z2⟩
    | false =>
     have l3:gs.len y*gs.wid y=0:=by have:=k10;rw[c2] at this;simp only[y4,if_false] at this;exact this.symm
     have h1:0<gs.len y:=by rw[<- h8];omega
     have h2:0<gs.wid y:=by rw[<- h9];have:=(g7.1 hs).1;omega
     have:=Nat.mul_pos h1 h2;omega
  have a8:∀ {M:Tok} {xm:Bool} {e':TypeId} {J:List S} {Z:List b8} {v:Value},M≠y->dX P w gs base M xm e' J Z v->dX P (w.setRow (gs.ρ y) (iR arr (i*row.length+off) vs)) gs base M xm e' J Z v:=by
   intro M xm e' J Z v ht h;rcases h with h | ⟨cap',U,E',k1,k2,k3,k4,k5,k6,k7,k8,k9,k10,k11⟩
   ·exact .inl h
   ·refine .inr ⟨cap',U,E',k1,k2,k3,k4,k5,by rw[W _ (by intro e;rw[e,h5] at k5;injection k5 with k5;injection k5 with k5;exact ht k5.symm)];exact k6,k7,k8,k9,k10,fun O j s a6 hs=>?_⟩;obtain⟨u,q1,V⟩:=k11 O j s a6 hs;exact⟨u,q1,b4 V⟩
  have c4:∀ {cells:List S} {a0:Nat} {x:D} {v:Value},iV P w gs base cells a0 x v->iV P (w.setRow (gs.ρ y) (iR arr (i*row.length+off) vs)) gs base cells a0 x v:=by rintro cells a0 x v ⟨b,o,q1,V,q3⟩;refine⟨b,o,q1,V,fun j s hs=>?_⟩;obtain⟨u,z1,z2⟩:=q3 j s hs;exact⟨u,(bg (W b (hr.oldNe V h5)) _).trans z1,b2 z2⟩
  have d7:∀c x v,VC P w gs base c x v->VC P (w.setRow (gs.ρ y) (iR arr (i*row.length+off) vs)) gs base (MY (· == y) c) (akz y (rows.set i Y) c x) v:=by
   intro c x v hv;cases c with
   | any=>trivial
   | d s=>exact b2 hv
   | kb b=>exact hv
   | own M xm e' =>
    obtain⟨J,a2,hv⟩:=hv;refine⟨J,a2,?_⟩;show dX P _ gs base M xm e' J (bif M==y then D.l (rows.set i Y) else x).rows v;by_cases ht:M=y
    ·subst ht;rw[show (M==M)=true from by simp];exact (c3 a2 hv).2
    ·rw[show (M==y)=false from by simpa using ht];exact a8 ht hv
   | ptr id a0=>exact hv
   | eptr tk e' a0 =>
    cases tk with
    | none =>obtain⟨J,b,o,q1,V,q3,q4⟩:=hv;refine⟨J,b,o,q1,V,q3,fun j s hs=>?_⟩;obtain⟨u,z1,z2,z3⟩:=q4 j s hs;exact⟨u,(bg (W b (by rintro rfl;rw[c2] at z2;omega)) _).trans z1,z2,b2 z3⟩
    | some M =>
     obtain⟨J,a2,V,q3,u,q4⟩:=hv;refine⟨J,a2,?_⟩;show v=.pointer (some ⟨gs.ρ M,eIx (bif M==y then D.l [[.l (rows.set i Y),gd (x.rows.getD 0 []) 1]] else x)*J.length+a0,none⟩)/\eIx (bif M==y then D.l [[.l (rows.set i Y),gd (x.rows.getD 0 []) 1]] else x)<(eK (bif M==y then D.l [[.l (rows.set i Y),gd (x.rows.getD 0 []) 1]] else x)).length/\∃u,dX P _ gs base M true e' J (eK (bif M==y then D.l [[.l (rows.set i Y),gd (x.rows.getD 0 []) 1]] else x)) u;by_cases ht:M=y
     ·subst ht;rw[show (M==M)=true from by simp,g6];obtain⟨z1,z2⟩:=c3 a2 q4;exact⟨V,by show eIx x<(rows.set i Y).length;rw[<- z1];exact q3,u,z2⟩
     ·rw[show (M==y)=false from by simpa using ht,f9];exact⟨V,q3,u,a8 ht q4⟩
   | inn M e' a0 k0 =>
    show VC P _ gs base (bif M==y then .any else .inn M e' a0 k0) x v;by_cases ht:M=y
    ·rw[show (M==y)=true from by simpa using ht];trivial
    ·rw[show (M==y)=false from by simpa using ht,f9];exact oG hv rfl (fun o a5 i4=>(W _ (by intro e;rw[e,h5] at a5;injection a5 with a5;injection a5 with a5;exact ht a5.symm)).trans i4) (fun hu=>a8 ht hu)
   | cptr cells a0=>exact c4 hv
   | fn f caps =>
    obtain⟨U,q1,V,q3⟩:=hv;refine⟨U,q1,V,fun j c hc=>?_⟩;obtain⟨u,hu,a7⟩:=q3 j c hc;refine⟨u,hu,?_⟩;cases c with
    | d s=>exact b2 a7
    | ptr id off=>exact a7
    | cptr cells off=>exact c4 a7
  have c9:∀ {cs:List Ce} {ds:b8} {U:Array Value},VCs P w gs base cs ds U->VCs P (w.setRow (gs.ρ y) (iR arr (i*row.length+off) vs)) gs base (cs.map (MY (· == y))) (rD y (rows.set i Y) cs ds) U:=by intro cs ds U h;refine⟨by rw[r9];exact h.1,fun j c hj=>?_⟩;obtain⟨c0,d4,rfl⟩:=Tp hj;obtain⟨u,q1,V⟩:=h.2 j c0 d4;exact⟨u,q1,by rw[uD _ _ _ _ j c0 d4];exact d7 c0 _ _ V⟩
  have i1:∀ {q:T} {v:Value},VT P w gs base q v->VT P (w.setRow (gs.ρ y) (iR arr (i*row.length+off) vs)) gs base (aeZ y (rows.set i Y) q) v:=by
   intro q v hv;obtain⟨sh,pq⟩:=q;cases sh with
   | tup xs=>trivial
   | one xx=>cases xx with
    | c xx =>show VC P _ gs base (MY (· == y) xx) (gd (rD y (rows.set i Y) [xx] pq) 0) v;rw[uD _ _ _ _ 0 xx rfl];exact d7 xx _ _ hv
    | agg xs =>obtain⟨U,rfl,hh⟩:=hv;exact⟨U,rfl,c9 hh⟩
  have f2:Rel P (w.setRow (gs.ρ y) (iR arr (i*row.length+off) vs)) gs base (a1.setRows y (rows.set i Y)) a:=by
   refine⟨fun j=>?_,fun id m3 m1 hq=>?_,by rw[b0];exact hr.fresh,by rw[b0];exact hr.base_le,hr.defers,hr.lowIn (fun b hb=>W b (hr.oldNe hb h5)) (D5 b0.symm) (fun b M g1 e1 _ a3 m2 a4 _=>by
    by_cases d3:b=gs.ρ y
    ·subst d3;rw[h6] at a4;injection a4 with a4
     injection a4 with a4
     subst a4;rename_i i3 _ _;exact⟨_,by rw[c5,i3],zQ _ _ _ c8⟩
    ·exact⟨g1,(W b d3).trans a4,rfl⟩),hr.mine⟩
   ·have e1:=tR (aeZ y (rows.set i Y)) rfl a1.e j a1.r;show VT P _ gs base (cz j (a1.e.map _) (a1.r.map _)) _;rw[e1];exact i1 (hr.env j)
   ·have e1:=CO (List.map (MY (· == y))) (rD y (rows.set i Y)) a1.h id;change bS id (a1.setRows y (rows.set i Y)).h=_ at e1;rw[hq] at e1;cases d1:bS id a1.h with
    | none=>rw[d1] at e1;cases e1
    | some q =>obtain⟨l9,l6⟩:=q;rw[d1] at e1;injection e1 with e1;injection e1 with e2 e3;subst e2;subst e3;obtain⟨j1,j2,j3,jl,U,E',j4,j5⟩:=hr.box id _ _ d1;exact⟨j1,j2,j3,by rw[uT,r9],U,E',by rw[W _ (by intro e';rw[e',h5] at j2;injection j2 with j2;cases j2)];exact j4,c9 j5⟩
  refine⟨undef,_,gs,.inr ⟨?_,rfl⟩,f2.put hd (t:=.none_) ⟨#[],rfl,rfl,fun j x h=>by simp at h⟩,⟨rfl,rfl,rfl,by rw[b0];exact i8 _,fun k g2=>W k (by omega)⟩,fun B hB=>⟨rfl,rfl,rfl,by rw[b0];exact i8 _,fun k g2=>W k (by have:=hB _ _ d5;omega)⟩⟩;simp only[execOp,ho,d5,l8,e6,i5,m9]
theorem Wq(a0:Rel P w g base σ a){o:Oper}{t n off:Nat}{e:TypeId}{x p:Operand}{cs:List Ce}{ds:b8}{pp:b8}{y:Tok}{row ss:List S}(ho:o.op=.store t p x)(hd:∀d,o.dst=some d->d<a.tmps.size)(hn:fp P t=some n)
  (hc:(ahm P σ t x).cells=some (cs,ds)) (hl:cs.length=n) (hp:(opd σ p)=⟨.one (.c (.eptr (some y) e off)),pp⟩) (U:br P e=some row) (a8:FA cs=some ss) (a3:(row.drop off).take n=ss) (Z:(toks cs).contains y=false) (a6:1<=n) (a2:off+n<=row.length) (V:(!bq y||(cs.all (pd P)&&cM (toks cs)&&(y.1 != 1000001||(toks cs).isEmpty)))=true) :
  Se P base (St.put ((bif bq y then oM (toks cs) σ else σ.seal (toks cs)).setRows y ((eK (gd pp 0)).set (eIx (gd pp 0)) (fV (sub ((eK (gd pp 0)).getD (eIx (gd pp 0)) []) 0 row.length) off (oy cs ds)))) o.dst .none_) o p a w:=by
 have b0:=dO a0 p;rw[hp] at b0;obtain⟨hx,a4⟩:=to hc (abm a0 t x);obtain⟨b5,J,a7,W,u0,O⟩:=b0;rw[U] at J;injection J with J;subst J
 cases a1:bq y with
 | false =>rw[f9];have a5:=aam (ts:=toks cs) hx a8 (fun t h=>A3.2 h);have hr:=a0.seal (toks cs);have Y:=ER (ts:=toks cs) O;rw[Z] at Y;simp only[A4,u5] at Y;exact Fj hr ho hd hn hx.1 (ze hx a4) hl a7 W Y U (fun k s hs=>by obtain⟨u,q1,q2⟩:=a5.2 k s hs;exact⟨u,q1,.of_vd q2 (.inl (by rw[a1];rfl))⟩) a3 a6 a2
 | true =>
  rw[g6];rw[a1] at V;simp only[n4,G7,a9] at V;have b1:g.owner (g.ρ y)=some (.inr y):=by
   rcases O with⟨h0,_⟩ | ⟨cap,arr,E,h1,h2,h3,h4,h5,rest⟩
   ·change eIx (gd pp 0)<(eK (gd pp 0)).length at W;rw[h0] at W;simp at W
   ·exact h5
  obtain⟨gs,r1,⟨e1,e2,e3,e4,e5,e6⟩,r2,r3,r4,r5⟩:=pA (s:=y) (i:=eIx (gd pp 0)) (cs:=cs) (ds:=ds) (us:=(a.eval x).cells.toList) (j0:=off) a0 (fun k c hk=>by
   obtain⟨u,q1,q2⟩:=hx.2 k c hk;exact⟨u,by simpa using q1,q2⟩) V.1.1 V.1.2 Z (by
    have h9:=V.2;rw[B6] at h9;rcases h9 with h9 | h9
    ·exact .inr (by simpa using h9)
    ·exact .inl (by simpa using h9)) (fun b t ht M e=>by rw[e,b1] at M;injection M with M;injection M with M;exact ht M.symm)
  refine Fj r1 ho hd hn hx.1 (ze hx a4) hl (by rw[e1];exact a7) W (r4 Z U O) U (fun k s hs=>?_) a3 a6 a2;obtain⟨b6,b3⟩:=Ez a8;obtain⟨c,b4,b2⟩:=b3 k s hs;obtain⟨u,q1,q2⟩:=r5 k c s b4 b2;exact⟨u,by simpa using q1,.of_tr q2 a1⟩
theorem Jj(Z:Rel P w g base σ a){o:Oper}{O:St}{t:TypeId}{p x:Operand}(W:o.op=.store t p x)(V:∀d,o.dst=some d->d<a.tmps.size)(h:Lm P σ o.dst t p x=some (O,true)):Se P base O o p a w:=by
 unfold Lm at h
 split at h
 ·rename_i n cs ds hn hc;cases hl:(cs.length==n) with
  | false=>rw[hl] at h;cases h
  | true =>
   rw[hl,g6] at h;have hl:cs.length=n:=by simpa using hl
   split at h
   ·rename_i id off hsh
    split at h
    ·rename_i Y a1 hb;cases M:Nat.ble (off+n) Y.length with
     | false=>rw[M] at h;cases h
     | true =>rw[M] at h;simp only[g6,b7,j8,E2] at h;subst h;exact Wy Z W V hn hc hl (pp:=(opd σ p).p) (by rw[<- hsh]) hb (y9 M)
    ·cases h
   ·rename_i J e off hsh
    split at h
    ·rename_i row ss U a0;cases y:((row.drop off).take n==ss && !(toks cs).contains J&&Nat.ble 1 n&&Nat.ble (off+n) row.length&&(!bq J||(cs.all (pd P)&&cM (toks cs)&&(J.1 != 1000001||(toks cs).isEmpty)))) with
     | false=>rw[y] at h;cases h
     | true =>rw[y] at h;simp only[g6,b7,j8,E2] at h;subst h;rw[a9] at y;obtain⟨y,q5⟩:=y;simp only[a9,u7,o8] at y;obtain⟨⟨⟨q1,q2⟩,q3⟩,q4⟩:=y;exact Wq Z W V hn hc hl (pp:=(opd σ p).p) (by rw[<- hsh]) U a0 q1 q2 (y9 q3) (y9 q4) q5
    ·cases h
   ·cases h
 ·cases h
theorem ZA(O:Rel P w g base σ a){o:Oper}{y:St}{t:TypeId}{p x:Operand}(M:o.op=.store t p x)(J:∀d,o.dst=some d->d<a.tmps.size)(h:Lm P σ o.dst t p x=some (y,true)):Vl P base y o a w:=(Jj O M J h).does
theorem tZ(V:Rel P w g base σ a){o:Oper}{a2:St}{d n:Nat}{t:TypeId}{y:Array (Nat × Operand)}(ho:o.op=.buildSlice t n y)(M:o.dst=some d)(hd:∀d,o.dst=some d->d<a.tmps.size)
  (h:nv P σ d t n y.toList=some (a2,true)):yA P base a2 o a w:=by
 unfold nv at h
 split at h
 ·rename_i e he a3
  split at h
  ·rename_i row J;cases U:(n==0&&jV P e row) with
   | false=>rw[U] at h;cases h
   | true =>
    rw[U] at h;simp only[g6,b7,j8,E2] at h;subst h;simp only[a9,u7] at U;obtain⟨rfl,hz⟩:=U;have Y:=iz J;have b2:y = #[]:=by cases y;simp_all
    subst b2;have hE:=Lz (g:=g) (w:=w) (d,1000000) e 0 row.length 0 (.cells #[] e);have r1:Rel P (w.alloc (.cells #[] e)) (ec g (d,1000000) e w.heap.size 0 row.length 0) base (σ.wipe d) a:=V.wipeRow (hd d M) hE rfl (Ij V _ _ _ _ _ _);have o3:(ec g (d,1000000) e w.heap.size 0 row.length 0).len (d,1000000)=0:=m6 rfl;have W:VT P (w.alloc (.cells #[] e)) (ec g (d,1000000) e w.heap.size 0 row.length 0) base (.c (.own (d,1000000) true e) (.l [])) (.slice (some ⟨w.heap.size,0,none⟩) 0 0):=⟨row,J,.inl ⟨rfl,o3,_,rfl⟩⟩;refine⟨.slice (some ⟨w.heap.size,0,none⟩) 0 0,_,_,.inl ?_,r1.put hd (t:=.c (.own (d,1000000) true e) (.l [])) W |> fun h=>by rw[M] at h ⊢;exact h,(Below.refl _ _).alloc V.base_le _,(Below.refl _ _).alloc (i8 _) _⟩;simp only[execOp,ho,Instr.buildSlice,l8,run_underlying (iM he),fH Y,i5];rw[j7 (by omega)];simp[Instr.fill,jh,l8,m9,i5]
    congr 2
    exact Array.eq_empty_of_size_eq_zero (by simp)
  ·cases h
 ·rename_i e i x he a3
  split at h
  ·rename_i row cs ds J hc;cases U:(n==1&&i==0&&FA cs==some row&&Nat.ble row.length 16777216&&jV P e row&&cs.all (pd P)&&cM (toks cs) && !(toks cs).contains (d,1000000)) with
   | false=>rw[U] at h;cases h
   | true =>
    rw[U] at h;simp only[g6,b7,j8,E2] at h;subst h;simp only[a9,u7,o8] at U;obtain⟨⟨⟨⟨⟨⟨⟨rfl,rfl⟩,hS⟩,a1⟩,hz⟩,a5⟩,b1⟩,a7⟩:=U;have a1:=y9 a1;obtain⟨ti,v0,hi,a8,hm⟩:=qd hz;have a4:=mZ J;have Y:=iz J;have b6:ti.size=row.length:=by have:=Y;unfold fp at this;rw[hi] at this;injection this
    have hE:=Lz (g:=g) (w:=w) (d,1000000) e 1 row.length 0 (.cells (a.eval x).cells e);have r1:Rel P (w.alloc (.cells (a.eval x).cells e)) (ec g (d,1000000) e w.heap.size 1 row.length 0) base (σ.wipe d) a:=V.wipeRow (hd d M) hE rfl (Ij V _ _ _ _ _ _);obtain⟨hx,b5⟩:=to hc (dO r1 x);obtain⟨a6,b3⟩:=Ez hS;have a0:(a.eval x).cells.size=row.length:=by rw[hx.1];exact a6.symm
    have o1:(ec g (d,1000000) e w.heap.size 1 row.length 0).owner w.heap.size=some (.inr (d,1000000)):=m6 rfl;have o2:(ec g (d,1000000) e w.heap.size 1 row.length 0).ρ (d,1000000)=w.heap.size:=m6 rfl;have o3:(ec g (d,1000000) e w.heap.size 1 row.length 0).len (d,1000000)=1:=m6 rfl;have o4:(ec g (d,1000000) e w.heap.size 1 row.length 0).wid (d,1000000)=row.length:=m6 rfl;have o5:(ec g (d,1000000) e w.heap.size 1 row.length 0).prot w.heap.size=0:=m6 rfl;have o6:(ec g (d,1000000) e w.heap.size 1 row.length 0).ety (d,1000000)=e:=m6 rfl;obtain⟨gs,r2,⟨e1,e2,e3,e4,e5,e6⟩,r3,r4,r5,r6⟩:=pA (s:=(d,1000000)) (i:=0) (cs:=cs) (ds:=ds) (us:=(a.eval x).cells.toList) (j0:=0) r1 (fun k c hk=>by
     obtain⟨u,q1,q2⟩:=hx.2 k c hk;exact⟨u,by simpa using q1,q2⟩) a5 b1 a7 (.inr (Nat.ne_of_lt (B0 (hd d M) (m8 V.defers.2 (by decide))))) (fun b t ht O e'=>by
     rw[o2] at e';subst e';rw[o1] at O;injection O with O
     injection O with O
     exact ht O.symm)
    have W:VT P (w.alloc (.cells (a.eval x).cells e)) gs base (.c (.own (d,1000000) true e) (.l [oy cs ds])) (.slice (some ⟨w.heap.size,0,none⟩) 1 1):=by
     refine⟨row,J,.inr ⟨1,(a.eval x).cells,e,by rw[e1,o2];rfl,i8 _,⟨by decide,rfl,by rw[e4,o6]⟩,by rw[e1,o2];exact V.base_le,by rw[e1,o2];exact r3.2 _ o1,by rw[e1,o2];exact gH w _,by rw[a0,Nat.one_mul],by rw[e2,o3];rfl,by rw[e3,o4],by rw[e1,o2,e6,o5];rfl,fun i j s hi hs=>?_⟩⟩;have hi:i<1:=hi;have hi:i=0:=by omega
     subst hi;obtain⟨c,b4,b0⟩:=b3 j s hs;obtain⟨u,q1,q2⟩:=r6 j c s b4 b0;refine⟨u,by rw[K4,m0];simpa using q1,.of_tr ?_ rfl⟩;rw[m0] at q2;exact q2
    have Z:Instr.fill (fun i=>some (i*row.length,row.length)) ((Array.range (1*row.length)).map ((if 1*row.length=0 then #[] else v0.cells)[· % (if 1*row.length=0 then #[] else v0.cells).size]!)) (y.map fun p=>(p.1,a.eval p.2)).toList=some (a.eval x).cells:=by rw[K3,a3];have:=Great.fill_whole a4 [a.eval x] ((Array.range (1*row.length)).map ((if 1*row.length=0 then #[] else v0.cells)[· % (if 1*row.length=0 then #[] else v0.cells).size]!)) (fun v hv=>by simp only[y5] at hv;subst hv;exact a0) (by simp);simpa using this
    refine⟨.slice (some ⟨w.heap.size,0,none⟩) 1 1,_,gs,.inl ?_,r2.put hd (t:=.c (.own (d,1000000) true e) (.l [oy cs ds])) W |> fun h=>by rw[M] at h ⊢;exact h,(Below.refl _ _).alloc V.base_le _,(Below.refl _ _).alloc (i8 _) _⟩;simp only[execOp,ho,Instr.buildSlice,l8,run_underlying (iM he),fH Y,i5];rw[j7 (by omega)];have h0:¬1*row.length=0:=by omega
    simp only[j7 h0] at Z ⊢;simp only[l8,zq hi a8,m9,i5];rw[Z];simp only[l8,jh,i5,m9]
  ·cases h
 ·cases h
end
end Go.Proofs.YtpdfmcmnjikppaaGreat
