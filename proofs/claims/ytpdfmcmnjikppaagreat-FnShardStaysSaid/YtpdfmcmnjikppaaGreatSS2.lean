/-
 Texts of the proof,put together: part 2.
-/
import Derived.Test.YtpdfmcmnjikppaaGreatSS1
import Derived.Great.FillDense
import Derived.IntWalk
import Derived.Laws.OwnMore
set_option linter.unusedSimpArgs false
set_option linter.unusedVariables false
set_option linter.unusedSectionVars false
namespace Go.Proofs.YtpdfmcmnjikppaaGreat
abbrev i5:=@List.length_append
abbrev m7:=@List.mem_append
abbrev n4:=@List.mem_singleton
abbrev n8:=@beq_self_eq_true
abbrev p9:=@List.getElem_mem
abbrev r9:=@Array.getElem?_append_left
abbrev t6:=@List.eq_nil_of_length_eq_zero
abbrev u7:=@List.contains_iff_mem
abbrev v6:=@Bool.and_self
abbrev v9:=@List.getElem?_append_left
abbrev w5:=@Bool.not_false
abbrev w7:=@Option.isSome_some
abbrev w9:=@List.getElem?_append
abbrev y9:=@Bool.or_eq_true
abbrev z6:=@List.size_toArray
abbrev z7:=@List.append_assoc
abbrev A5:=@List.getElem?_append_right
abbrev A2:=@List.mem_cons
abbrev A4:=@Array.getElem?_append_right
abbrev A7:=@List.map_map
abbrev A9:=@Array.size_append
abbrev C2:=@List.length_cons
abbrev B3:=@List.map_congr_left
abbrev B9:=@List.append_nil
abbrev F0:=@List.length_nil
abbrev E0:=@Array.getElem?_setIfInBounds
abbrev E6:=@Array.length_toList
abbrev E7:=@List.getElem?_of_mem
abbrev F2:=@List.flatMap_cons
abbrev F3:=@List.getElem?_toArray
abbrev F5:=@Bool.false_or
abbrev H6:=@Bool.or_eq_false_iff
abbrev I5:=@List.getElem?_cons_succ
abbrev I6:=@Nat.add_sub_cancel_left
abbrev J1:=@List.contains_cons
abbrev J2:=@Array.append_assoc
abbrev K1:=@Array.toList_map
abbrev K2:=@Nat.zero_mul
abbrev K4:=@Array.mapM_eq_mapM_toList
abbrev L4:=@Nat.mul_comm
abbrev L5:=@List.getElem?_set
abbrev M0:=@Nat.div_lt_iff_lt_mul
abbrev M3:=@Nat.le_max_right
abbrev M6:=@List.all_cons
end Go.Proofs.YtpdfmcmnjikppaaGreat
namespace Go.Proofs.YtpdfmcmnjikppaaGreat
open Go.RowKit
section
variable [Low] {P:Program} {w w':World} {g g':G} {base:Nat} {σ:St} {a:Act}
theorem UQ(a:Act)(d i:Nat)(v:Value)(J:d<a.tmps.size):(a.put (some d) v).tmps.getD i undef=if i=d then v else a.tmps.getD i undef:=by
 simp only[Act.put,y3,E0];by_cases e:i=d
 ·subst e;simp[J]
 ·rw[i7 (by omega),i7 e]
theorem cI(a:Act)(d:Option Nat)(v:Value):(a.put d v).tmps.size=a.tmps.size:=by cases d <;> simp[Act.put]
theorem put_defers(a:Act)(d:Option Nat)(v:Value):(a.put d v).defers=a.defers:=by cases d <;> rfl
theorem Rel.put(J:Rel P w g base σ a){dst:Option Nat}(O:∀d,dst=some d->d<a.tmps.size){t:T}{v:Value}(hv:VT P w g base t v):Rel P w g base (σ.put dst t) (a.put dst v):=by
 cases dst with
 | none=>exact J
 | some d =>
  refine⟨fun i=>?_,J.box,J.fresh,J.base_le,⟨J.defers.1,by rw[cI];exact J.defers.2⟩,J.low,J.mine⟩;rw[UQ a d i v (O d rfl)];show VT P w g base (bif i==d then t else bZ i σ.e σ.r) _;by_cases e:i=d
  ·rw[j8 e,show (i==d)=true from by simpa using e];exact hv
  ·rw[i7 e,show (i==d)=false from by simpa using e];exact J.env i
theorem Rel.ext{J:Nat}(O:Rel P w g base σ a)(U:J<a.tmps.size)(h:Ext (some J) g g' w w')(hf:∀b,w'.heap.size<=b->g'.prot b=0/\g'.owner b=none)(Y:∀id cs ds,bH id σ.h=some (cs,ds)->id≠J) :
  Rel P w' g' base (σ.wipe J) a:=by
 have hk:iu P base g g' w w' (eW J):=fun c x v hv=>h.vc O.base_le hv
 refine⟨fun i=>O.envMap hk rfl i,fun id cs ds hl=>O.boxMap hk hl fun cs ds Z=>?_,hf,o8 O.base_le h.size,O.defers,h.low O (O.ne U),h.mine O (O.ne U)⟩;obtain⟨k1,k2,k3,kl,a0,E,k4,k5⟩:=O.box id cs ds Z;have V:=aT k4;exact⟨h.θ id (by intro e;injection e with e;exact Y id cs ds Z e),h.owner _ V,h.prot _ V,h.heap _ V⟩
def nj(g:G)(d J:Nat):G:={ g with owner:=fun b=>if b=J then some (.inl d) else g.owner b,θ:=fun id=>if id=d then J else g.θ id,len:=fun t=>if t.1=d then 0 else g.len t }
def Yc(g:G)(d:Nat):G:={ g with len:=fun t=>if t.1=d then 0 else g.len t }
theorem Qd(g:G)(d:Nat)(w:World):Ext (some d) g (Yc g d) w w:=
 ⟨g8 _,fun _ _=>rfl,fun t h=>⟨rfl,i7 (fun e=>h (by rw[e])),rfl,rfl⟩,fun _ _=>rfl,fun _ _=>rfl,fun _ _=>rfl,fun _ _=>⟨rfl,rfl⟩,rfl,fun _ _ _ h=>.inr h⟩
def du(g:G)(t:Tok)(e:TypeId)(J n k:Nat)(p:Nat):G:=
 { prot:=fun b=>if b=J then p else g.prot b,owner:=fun b=>if b=J then some (.inr t) else g.owner b,θ:=g.θ,ρ:=fun u=>if u=t then J else g.ρ u,len:=fun u=>if u=t then n else g.len u,wid:=fun u=>if u=t then k else g.wid u,ety:=fun u=>if u=t then e else g.ety u,path:=g.path,need:=g.need,old:=g.old }
theorem abz(d:Nat)(o:Obj):Ext (some d) g (nj g d w.heap.size) w (w.alloc o):=by
 refine⟨by simp,fun id h=>?_,fun t h=>⟨rfl,i7 (fun e=>h (by rw[e])),rfl,rfl⟩,fun b h=>rfl,fun b h=>?_,fun b h=>Below.heap_alloc w o b h,fun _ _=>⟨rfl,rfl⟩,rfl,fun b t _ h=>?_⟩
 ·show (if id=d then _ else _)=_;rw[i7 (fun e=>h (by rw[e]))]
 ·show (if b=w.heap.size then _ else _)=_;rw[i7 (by omega)]
 ·change (if b=w.heap.size then _ else _)=_ at h
  split at h
  ·cases h
  ·exact .inr h
theorem JW(t:Tok)(e:TypeId)(n k p:Nat)(o:Obj):Ext (some t.1) g (du g t e w.heap.size n k p) w (w.alloc o):=by
 refine⟨by simp,fun id h=>rfl,fun u h=>?_,fun b h=>?_,fun b h=>?_,fun b h=>Below.heap_alloc w o b h,fun _ _=>⟨rfl,rfl⟩,rfl,fun b u _ h=>?_⟩
 rotate_right
 ·change (if b=w.heap.size then _ else _)=_ at h
  split at h
  ·injection h with h;injection h with h;exact .inl (by rw[h])
  ·exact .inr h
 ·have:u≠t:=fun e=>h (by rw[e])
  exact⟨i7 this,i7 this,i7 this,i7 this⟩
 ·show (if b=w.heap.size then _ else _)=_;rw[i7 (by omega)]
 ·show (if b=w.heap.size then _ else _)=_;rw[i7 (by omega)]
theorem oX(i:Nat)(v:List Ce × b8):∀(h:sH) (j:Nat),bH j (rU i v h)=if j=i then some v else bH j h
 | [],j=>by
  by_cases e:j=i
  ·subst e;simp[rU,bH]
  ·rw[i7 e];simp only[rU,bH];rw[show (j==i)=false from by simpa using e];rfl
 | (k,u)::r,j=>by
  unfold rU;by_cases hk:i=k
  ·subst hk;simp only[n8,f8,bH];by_cases e:j=i
   ·subst e;simp
   ·rw[i7 e,show (j==i)=false from by simpa using e];rfl
  ·rw[show (i==k)=false from by simpa using hk,f5];simp only[bH];rw[oX i v r j];by_cases e:j=k
   ·subst e;simp[Ne.symm hk]
   ·rw[show (j==k)=false from by simpa using e];simp
theorem RJ(f:Ce->Ce)(σ:St)(i:Nat):bH i (σ.map f).h=(bH i σ.h).map fun q=>(q.1.map f,q.2):=yk (List.map f) σ.h i
theorem Rel.wipeBox{J:Nat}(O:Rel P w g base σ a)(V:J<a.tmps.size)(h:Ext (some J) g g' w w')(hf:∀b,w'.heap.size<=b->g'.prot b=0/\g'.owner b=none){cs:List Ce}{ds:b8}
  (hb:aef P w' g' base J cs ds):Rel P w' g' base ⟨(σ.wipe J).r,(σ.wipe J).e,rU J (cs,ds) (σ.wipe J).h⟩ a:=by
 have hk:iu P base g g' w w' (eW J):=fun c x v hv=>h.vc O.base_le hv
 refine⟨fun i=>O.envMap hk rfl i,fun id a0 a2 U=>?_,hf,o8 O.base_le h.size,O.defers,h.low O (O.ne V),h.mine O (O.ne V)⟩;rw[oX] at U;by_cases e:id=J
 ·rw[j8 e] at U;injection U with U
  injection U with h1 h2
  subst h1;subst h2;subst e;exact hb
 ·rw[i7 e] at U;refine O.boxMap hk U fun cs ds hq=>?_
  obtain⟨k1,k2,k3,kl,a1,E,k4,k5⟩:=O.box id cs ds hq;have Y:=aT k4;exact⟨h.θ id (by intro Z;injection Z with Z;exact e Z),h.owner _ Y,h.prot _ Y,h.heap _ Y⟩
theorem Rel.wipeRow{O:Nat}(J:Rel P w g base σ a)(U:O<a.tmps.size)(h:Ext (some O) g g' w w')(Y:g'.θ=g.θ)(hf:∀b,w'.heap.size<=b->g'.prot b=0/\g'.owner b=none):Rel P w' g' base (σ.wipe O) a:=by
 have hk:iu P base g g' w w' (eW O):=fun c x v hv=>h.vc J.base_le hv
 refine⟨fun i=>J.envMap hk rfl i,fun id cs ds hl=>J.boxMap hk hl fun cs ds Z=>?_,hf,o8 J.base_le h.size,J.defers,h.low J (J.ne U),h.mine J (J.ne U)⟩;obtain⟨k1,k2,k3,kl,a0,E,k4,k5⟩:=J.box id cs ds Z;have V:=aT k4;exact⟨by rw[Y],h.owner _ V,h.prot _ V,h.heap _ V⟩
theorem fw(w:World)(o:Obj):(w.alloc o).heap[w.heap.size]?=some o:=by show (w.heap.push o)[w.heap.size]?=_;simp
theorem Rh(J:Rel P w g base σ a)(d:Nat)(o:Obj):∀b,(w.alloc o).heap.size<=b->(nj g d w.heap.size).prot b=0/\(nj g d w.heap.size).owner b=none:=by
 intro b O;have U:w.heap.size+1<=b:=by simpa using O
 have:=J.fresh b (by omega);exact⟨this.1,by show (if b=w.heap.size then _ else _)=_;rw[i7 (by omega)];exact this.2⟩
theorem Gv(J:Rel P w g base σ a)(t:Tok)(e:TypeId)(n k p:Nat)(o:Obj):∀b,(w.alloc o).heap.size<=b->(du g t e w.heap.size n k p).prot b=0/\(du g t e w.heap.size n k p).owner b=none:=by
 intro b O;have U:w.heap.size+1<=b:=by simpa using O
 have:=J.fresh b (by omega);exact⟨by show (if b=w.heap.size then _ else _)=_;rw[i7 (by omega)];exact this.1,by show (if b=w.heap.size then _ else _)=_;rw[i7 (by omega)];exact this.2⟩
theorem ij(e:TypeId)(cs:Array Value):(newRow e cs).run P w=.ok ⟨w.heap.size,0,none⟩ (w.alloc (.cells cs e)):=by simp[newRow,newObj,Sem.run]
def TS(P:Program)(base:Nat)(J:St)(o:Oper)(a:Act)(w:World):Prop:=
 ∃z w' g',((execOp a.eval o).run P w=.ok (.value z) w'\/((execOp a.eval o).run P w=.ok .skip w'/\z=undef))/\Rel P w' g' base J (a.put o.dst z)/\Below base w w'
def wU(P:Program)(base:Nat)(J:St)(o:Oper)(a:Act)(w:World):Prop:=
 ∃z w' g',((execOp a.eval o).run P w=.ok (.value z) w'\/((execOp a.eval o).run P w=.ok .skip w'/\z=undef))/\Rel P w' g' base J (a.put o.dst z)/\Below base w w'/\Below w.heap.size w w'
theorem wU.does{P:Program}{base:Nat}{J:St}{o:Oper}{a:Act}{w:World}(h:wU P base J o a w):TS P base J o a w:=by obtain⟨z,w',g',h1,O,U,_⟩:=h;exact⟨z,w',g',h1,O,U⟩
theorem acU(O:Rel P w g base σ a){o:Oper}{J:St}(U:∀d,o.dst=some d->d<a.tmps.size)(h:rp P σ o=some (J,true)):TS P base J o a w:=by
 unfold rp at h
 split at h
 ·rename_i v ok V;simp only[b7,i8] at h;obtain⟨rfl,rfl⟩:=h;obtain⟨z,h1,Y⟩:=aeF O V;have h1:=h1 w (.inl (Below.refl _ _));exact⟨z,w,g,.inl h1,O.put U Y,Below.refl _ _⟩
 ·cases h
theorem uD{v:T}{cs:List Ce}{ds:b8}(h:v.cells=some (cs,ds)):ds.length=cs.length:=by
 obtain⟨sh,p⟩:=v;unfold T.cells at h;simp only at h
 split at h
 ·rename_i x;cases J:(x==Ce.any) with
  | true=>rw[J] at h;cases h
  | false=>rw[J] at h;simp only[f5,b7,i8] at h;obtain⟨rfl,rfl⟩:=h;rfl
 ·rename_i xs;cases J:xs.contains Ce.any with
  | true=>rw[J] at h;cases h
  | false=>rw[J] at h;simp only[f5,b7,i8] at h;obtain⟨rfl,rfl⟩:=h;exact eH _ _ _
 ·cases h
theorem rI{v:T}{u:Value}{cs:List Ce}{ds:b8}(h:v.cells=some (cs,ds))(hv:VT P w g base v u):VCs P w g base cs ds u.cells/\(∀c∈cs,c≠.any):=by
 obtain⟨sh,p⟩:=v;cases sh with
 | tup xs=>cases h
 | one x=>cases x with
  | c x =>
   simp only[T.cells] at h;cases J:(x==Ce.any) with
   | true=>rw[J] at h;cases h
   | false =>
    rw[J] at h;simp only[f5,b7,i8] at h;obtain⟨rfl,rfl⟩:=h;have hv:VC P w g base x (p 0) u:=hv;have J:x≠.any:=by simpa using J
    have hf:=hv.flat J;have U:u.cells = #[u]:=by cases u <;> simp_all [DR,Value.cells]
    refine⟨⟨by rw[U];rfl,fun j c O=>?_⟩,by simpa using J⟩;cases j with
    | succ j=>simp at O
    | zero =>simp only[n5,b7] at O;subst O;exact⟨u,by rw[U];rfl,hv⟩
  | agg xs =>
   simp only[T.cells] at h;cases J:xs.contains Ce.any with
   | true=>rw[J] at h;cases h
   | false =>
    rw[J] at h;simp only[f5,b7,i8] at h;obtain⟨rfl,rfl⟩:=h;obtain⟨a0,rfl,h1,Y⟩:=hv;refine⟨⟨h1,fun j c O=>?_⟩,fun c U e=>?_⟩
    ·obtain⟨z,V,Z⟩:=Y j c O;exact⟨z,V,by rw[fq _ _ _ _ (g5.1 O).1,i9];exact Z⟩
    ·subst e;have:=u7.2 U;rw[this] at J;cases J
theorem WK(J:Rel P w g base σ a){o:Oper}{a0:St}{d:Nat}{t:TypeId}{x:Operand}(ho:o.op=.box t x)(O:o.dst=some d)(Y:∀d,o.dst=some d->d<a.tmps.size)(h:afL σ d x=some (a0,true)):wU P base a0 o a w:=by
 unfold afL at h;have V:=abz (g:=g) (w:=w) d (.cells (a.eval x).cells t);have hF:=Rh J d (.cells (a.eval x).cells t);have hk:iu P base g _ w _ (eW d):=fun c x v hv=>V.vc J.base_le hv
 cases Z:(opd (σ.wipe d) x).cells with
 | none=>rw[Z] at h;cases h
 | some q =>
  obtain⟨cs,ds⟩:=q;rw[Z] at h;simp only[b7,i8,C6] at h;subst h;have a3:Rel P (w.alloc (.cells (a.eval x).cells t)) (nj g d w.heap.size) base ⟨(σ.wipe d).r,(σ.wipe d).e,[]⟩ a:=
   ⟨fun i=>J.envMap hk rfl i,fun id cs ds hl=>by simp[bH] at hl,hF,o8 J.base_le V.size,J.defers,V.low J (J.ne (Y d O)),V.mine J (J.ne (Y d O))⟩
  have a5:VT P (w.alloc (.cells (a.eval x).cells t)) (nj g d w.heap.size) base (opd (σ.wipe d) x) (a.eval x):=by have:=cZ a3 x;exact this
  obtain⟨a4,_⟩:=rI Z a5;have a1:aef P (w.alloc (.cells (a.eval x).cells t)) (nj g d w.heap.size) base d cs ds:=by have U:(nj g d w.heap.size).θ d=w.heap.size:=j8 rfl;refine⟨by rw[U];exact J.base_le,by rw[U];exact j8 rfl,by rw[U];exact (J.fresh _ (g8 _)).1,uD Z,(a.eval x).cells,t,by rw[U];exact fw w _,a4⟩
  have a2:=J.wipeBox (Y d O) V hF a1;refine⟨.pointer (some ⟨w.heap.size,0,none⟩),_,_,.inl ?_,a2.put Y (t:=.c (.ptr d 0) D0) ?_ |> fun h=>by rw[O] at h ⊢;exact h,(Below.refl _ _).alloc J.base_le _,(Below.refl _ _).alloc (g8 _) _⟩
  ·simp only[execOp,ho,Instr.box,newVar,j7,ij,g7,m8]
  ·show Value.pointer _=Value.pointer (some ⟨(nj g d w.heap.size).θ d,0,none⟩);rw[show (nj g d w.heap.size).θ d=w.heap.size from j8 rfl]
theorem Dv:∀ {row:List S} {O:List Value},bW P row O=true->O.length=row.length/\∀(j:Nat) (s:S),row[j]?=some s->∃u,O[j]?=some u/\(∀(w:World) (prot:Nat->Nat),VD P w prot s (li s) u)/\(∀e,s=.sl e->u=.slice none 0 0/\∃r,bk P e=some r)
 | [],[],_=>⟨rfl,fun j s h=>by simp at h⟩
 | [],_::_,h=>by simp[bW] at h
 | s::r,[],h=>by cases s <;> simp[bW] at h
 | s::r,v::O,h=>by
  have key:bW P r O=true/\(∀(w:World) (prot:Nat->Nat),VD P w prot s (li s) v)/\(∀e,s=.sl e->v=.slice none 0 0/\∃r,bk P e=some r):=by
   cases s with
   | int k =>cases v <;> simp only[bW,a9,p6,reduceCtorEq,u4] at h;obtain⟨⟨rfl,rfl⟩,h⟩:=h;exact⟨h,fun w prot=>VD.int _ (.i 0),fun e J=>by cases J⟩
   | bool =>cases v <;> simp only[bW,a9,p6,reduceCtorEq,u4,m6] at h;obtain⟨rfl,h⟩:=h;exact⟨h,fun w prot=>VD.bool (.b false),fun e J=>by cases J⟩
   | str =>
    cases v <;> simp only[bW,a9,p6,reduceCtorEq,u4] at h;rename_i b;obtain⟨V,h⟩:=h;have hb:b=bsv []:=by
     have:b.data.toList = []:=by simpa using V
     rw[<- sX b];unfold oJ;rw[this]
    subst hb;exact⟨h,fun w prot=>VD.str (.s []),fun e J=>by cases J⟩
   | sl e =>
    cases v with
    | slice A n c =>
     cases A with
     | some A=>simp[bW] at h
     | none =>
      cases n with
      | succ n=>simp[bW] at h
      | zero =>
       cases c with
       | succ c=>simp[bW] at h
       | zero =>simp only[bW,a9] at h;obtain⟨V,h⟩:=h;obtain⟨U,Z⟩:=B6.1 V;refine⟨h,fun w prot=>?_,fun e' J=>by cases J;exact⟨rfl,U,Z⟩⟩;exact VD.sl e (.l []) none 0 U (fun _ _=>undef) Z (by simp[D.rows]) (by omega) (fun i j hi=>by simp[D.rows] at hi) (fun i j s hi=>by simp[D.rows] at hi)
    | _=>simp[bW] at h
   | opq=>cases v <;> simp[bW] at h
  obtain⟨h1,h2,h3⟩:=key;obtain⟨k1,k2⟩:=Dv h1;refine⟨by simp[k1],fun j s' Y=>?_⟩;cases j with
  | zero =>simp only[n5,b7] at Y;subst Y;exact⟨v,rfl,h2,h3⟩
  | succ j=>exact k2 j s' (by simpa using Y)
theorem abx:∀ {row:List S} {J:List Value},bW P row J=true->∀j:Nat,row[j]?≠some .opq
 | [],_,_,j=>by simp
 | s::r,[],h,j=>by cases s <;> simp[bW] at h
 | s::r,v::J,h,j=>by
  have key:bW P r J=true/\s≠.opq:=by
   cases s <;> cases v <;> simp_all [bW]
   all_goals (rename_i A n c;cases A <;> cases n <;> cases c <;> simp_all [bW])
  cases j with
  | zero=>simpa using key.2
  | succ j=>simpa using abx key.1 j
theorem QU(f:S->Nat)(d:Nat):∀(row:List S) (i j:Nat) c,(nL f d i row)[j]?=some c->∃s,row[j]?=some s/\((∃e n,s=.sl e/\c=.own (d,n) true e)\/c=.d s)
 | [],i,j,c,h=>by simp[nL] at h
 | s::r,i,j,c,h=>by
  cases j with
  | zero =>
   simp only[nL,n5,b7] at h;subst h;refine⟨s,rfl,?_⟩;cases s with
   | sl e=>exact .inl ⟨e,_,rfl,rfl⟩
   | _=>exact .inr rfl
  | succ j =>obtain⟨s',h1,J⟩:=QU f d r (i+1) j c (by simpa [nL] using h);exact⟨s',by simpa using h1,J⟩
theorem nW(f:S->Nat)(d:Nat):∀(row:List S) (i:Nat),(nL f d i row).length=row.length
 | [],_=>rfl
 | s::r,i=>by rw[nL,C2,C2,nW f d r (i+1)]
theorem GK(row:List S)(j:Nat)(s:S)(h:row[j]?=some s):row.map li j=li s:=by simp[gd,f9,u6,h]
theorem Xh{f:S->Nat}{row:List S}{J:Array Value}(h:bW P row J.toList=true)(d i:Nat)(Z:∀i,g.len (d,i)=0):VCs P w g base (nL f d i row) (row.map li) J:=by
 obtain⟨h1,U⟩:=Dv h;refine⟨by rw[nW];simpa using h1,fun j c hj=>?_⟩;obtain⟨s,hs,hc⟩:=QU f d row i j c hj;obtain⟨u,Y,hv,O⟩:=U j s hs;refine⟨u,by simpa using Y,?_⟩;rw[GK row j s hs];rcases hc with⟨e,_,rfl,rfl⟩ | rfl
 ·obtain⟨rfl,r,V⟩:=O e rfl;exact⟨r,V,.inl ⟨rfl,Z _,none,rfl⟩⟩
 ·exact hv w g.prot
theorem oD{t:TypeId}{row:List S}(h:iT P t row=true):∃i v,P.info? t=some i/\i.zero=some v/\bW P row v.cells.toList=true:=by
 unfold iT at h
 split at h
 ·rename_i i hi
  split at h
  ·rename_i v hv;exact⟨i,v,hi,hv,h⟩
  ·cases h
 ·cases h
theorem xO{t:TypeId}{i:TypeInfo}{v:Value}(hi:P.info? t=some i)(hz:i.zero=some v)(w:World):(zeroValue t).run P w=.ok v w:=by simp[zeroValue,typeInfo,program,hi,hz,Sem.run]
def amZ(P:Program)(base:Nat)(J:St)(o:Oper)(a:Act)(w:World):Prop:=
 ∃z w' g',(execOp a.eval o).run P w=.ok (.value z) w'/\Rel P w' g' base J (a.put o.dst z)/\Below base w w'/\Below w.heap.size w w'/\z=.pointer (some ⟨w.heap.size,0,none⟩)
theorem mY(O:Rel P w g base σ a){o:Oper}{V:St}{d:Nat}{b:Bool}{t:TypeId}(ho:o.op=.alloc t)(U:o.dst=some d)(hd:∀d,o.dst=some d->d<a.tmps.size)(h:oa P σ d b t=some (V,true)):amZ P base V o a w:=by
 unfold oa at h
 split at h
 ·rename_i row a0;cases hz:iT P t row with
  | false=>rw[hz] at h;cases h
  | true =>
   rw[hz] at h;simp only[l8,f5,b7,i8,C6] at h;subst h;obtain⟨ti,v,hi,hv,hm⟩:=oD hz;have hE:=abz (g:=g) (w:=w) d (.cells v.cells t);have hF:=Rh O d (.cells v.cells t);have J:(nj g d w.heap.size).θ d=w.heap.size:=j8 rfl;have Y:aef P (w.alloc (.cells v.cells t)) (nj g d w.heap.size) base d (nL (Ut P b) d 0 row) (row.map li):=
    ⟨by rw[J];exact O.base_le,by rw[J];exact j8 rfl,by rw[J];exact (O.fresh _ (g8 _)).1,by simp[nW],v.cells,t,by rw[J];exact fw w _,Xh hm d 0 (fun i=>j8 rfl)⟩
   have Z:=O.wipeBox (hd d U) hE hF Y;refine⟨.pointer (some ⟨w.heap.size,0,none⟩),_,_,?_,Z.put hd (t:=.c (.ptr d 0) D0) ?_ |> fun h=>by rw[U] at h ⊢;exact h,(Below.refl _ _).alloc O.base_le _,(Below.refl _ _).alloc (g8 _) _,rfl⟩
   ·simp only[execOp,ho,Instr.alloc,newVar,j7,xO hi hv,ij,g7,m8]
   ·show Value.pointer _=Value.pointer (some ⟨(nj g d w.heap.size).θ d,0,none⟩);rw[J]
 ·cases h
theorem XT(Z:Rel P w g base σ a){o:Oper}{J:St}{d:Nat}{b:Bool}{t:TypeId}(V:o.op=.alloc t)(O:o.dst=some d)(U:∀d,o.dst=some d->d<a.tmps.size)(h:oa P σ d b t=some (J,true)):TS P base J o a w:=by obtain⟨z,w',g',h1,Y,h3,_⟩:=mY Z V O U h;exact⟨z,w',g',.inl h1,Y,h3⟩
theorem Xe(Z:Rel P w g base σ a){o:Oper}{O:St}{d:Nat}(ho:o.op=.assign (.const (.slice none 0 0)))(J:o.dst=some d)(Y:∀d,o.dst=some d->d<a.tmps.size){ix:Nat}(h:aeD P σ d ix o.type=some (O,true)):wU P base O o a w:=by
 unfold aeD at h
 split at h
 ·rename_i e he;cases hz:(bk P e).isSome with
  | false=>rw[hz] at h;cases h
  | true =>rw[hz] at h;simp only[f8,b7,i8,C6] at h;subst h;obtain⟨row,U⟩:=B6.1 hz;have V:=Z.wipeRow (Y d J) (Qd g d w) rfl Z.fresh;refine⟨.slice none 0 0,w,Yc g d,.inl (by simp[execOp,ho,Act.eval]),V.put Y (t:=.c (.own (d,ix) true e) (.l [])) ?_ |> fun h=>by rw[J] at h ⊢;exact h,Below.refl _ _,Below.refl _ _⟩;exact⟨row,U,.inl ⟨rfl,j8 rfl,none,rfl⟩⟩
 ·cases h
end
section
variable [Low] {P:Program} {w w':World} {g g':G} {base:Nat} {σ:St} {a:Act}
def bB(g:G)(ts:List Tok):G:=
 { g with prot:=fun b=>match g.owner b with | some (.inr t)=>if ts.contains t=true then (if g.ρ t=b then max (g.prot b) (g.len t*g.wid t) else if bm t=true then max (g.prot b) (g.need b) else g.prot b) else g.prot b | _=>g.prot b }
theorem JP(g:G)(ts:List Tok)(b:Nat):g.prot b<=(bB g ts).prot b:=by
 show _<=(match g.owner b with | some (.inr t)=>if ts.contains t=true then (if g.ρ t=b then max (g.prot b) (g.len t*g.wid t) else if bm t=true then max (g.prot b) (g.need b) else g.prot b) else g.prot b | _=>g.prot b)
 split
 ·split
  ·split
   ·exact Nat.le_max_left _ _
   ·split
    ·exact Nat.le_max_left _ _
    ·exact g8 _
  ·exact g8 _
 ·exact g8 _
theorem Gk{ts:List Tok}{t:Tok}{b:Nat}(U:g.owner b=some (.inr t))(J:b≠g.ρ t)(O:bm t=true)(V:ts.contains t=true):g.need b<=(bB g ts).prot b:=by show _<=(match g.owner b with | some (.inr t)=>if ts.contains t=true then (if g.ρ t=b then max (g.prot b) (g.len t*g.wid t) else if bm t=true then max (g.prot b) (g.need b) else g.prot b) else g.prot b | _=>g.prot b);rw[U];simp only[V,if_true,i7 (Ne.symm J),O];exact M3 _ _
theorem Rb{ts:List Tok}{t:Tok}{b:Nat}(J:g.owner b=some (.inr t))(O:ts.contains t=false):(bB g ts).prot b=g.prot b:=by show (match g.owner b with | some (.inr t)=>if ts.contains t=true then (if g.ρ t=b then max (g.prot b) (g.len t*g.wid t) else if bm t=true then max (g.prot b) (g.need b) else g.prot b) else g.prot b | _=>g.prot b)=_;rw[J];show (if ts.contains t=true then _ else _)=_;rw[O,i7 (by simp)]
theorem JG{ts:List Tok}{t:Tok}(J:g.owner (g.ρ t)=some (.inr t)):(bB g ts).prot (g.ρ t)=if ts.contains t=true then max (g.prot (g.ρ t)) (g.len t*g.wid t) else g.prot (g.ρ t):=by show (match g.owner (g.ρ t) with | some (.inr u)=>if ts.contains u=true then (if g.ρ u=g.ρ t then max (g.prot (g.ρ t)) (g.len u*g.wid u) else if bm u=true then max (g.prot (g.ρ t)) (g.need (g.ρ t)) else g.prot (g.ρ t)) else g.prot (g.ρ t) | _=>g.prot (g.ρ t))=_;rw[J];simp
theorem Es{ts:List Tok}{b id:Nat}(J:g.owner b=some (.inl id)):(bB g ts).prot b=g.prot b:=by show (match g.owner b with | some (.inr t)=>if ts.contains t=true then (if g.ρ t=b then max (g.prot b) (g.len t*g.wid t) else if bm t=true then max (g.prot b) (g.need b) else g.prot b) else g.prot b | _=>g.prot b)=_;rw[J]
theorem FT{ts:List Tok}{b:Nat}(J:g.owner b=none):(bB g ts).prot b=g.prot b:=by show (match g.owner b with | some (.inr t)=>if ts.contains t=true then (if g.ρ t=b then max (g.prot b) (g.len t*g.wid t) else if bm t=true then max (g.prot b) (g.need b) else g.prot b) else g.prot b | _=>g.prot b)=_;rw[J]
theorem gA{ts:List Tok}{s:S}{x:D}{v:Value}(h:VD P w g.prot s x v):VD P w (bB g ts).prot s x v:=
 h.mono fun b o u J O=>⟨O,y8 J (JP g ts b)⟩
theorem QK{ts:List Tok}{t:Tok}{J:Bool}{i j:Nat}{s:S}{d:D}{u:Value}(h:ci P base w g t J i j s d u):ci P base w (bB g ts) t (J && !ts.contains t) i j s d u:=by
 cases Y:ts.contains t with
 | false =>rw[show (J && !false)=J from by cases J <;> rfl];refine h.mono rfl (fun b o z h1 Z=>⟨Z,y8 h1 (JP g ts b)⟩) (fun _ b o h0 U V hb=>⟨hb,h0,U,V,rfl,rfl,fun e=>by rw[Rb U Y];exact e⟩)
 | true =>
  rw[show (J && !true)=false from by cases J <;> rfl];unfold ci at h ⊢;rw[C9,i7 (by simp)]
  split at h
  ·rename_i hd;exact TR.vd h fun b π n O=>by rw[<- O.2.2.2.2.1];exact Gk O.2.1 O.2.2.1 (by cases a0:bm t <;> simp_all) Y
  ·exact gA h
theorem Dj{ts:List Tok}{t:Tok}{J:Bool}{e:TypeId}{row:List S}{rows:List b8}{v:Value}(h:dp P w g base t J e row rows v):dp P w (bB g ts) base t (J && !ts.contains t) e row rows v:=by
 rcases h with h | ⟨cap,arr,E,h1,h2,h3,h4,h5,h6,h7,h8,h9,h10,h11⟩
 ·exact .inl h
 ·refine .inr ⟨cap,arr,E,h1,h2,h3,h4,h5,h6,h7,h8,h9,?_,fun i j s hi hs=>?_⟩
  ·show (bB g ts).prot (g.ρ t)=if (J && !ts.contains t)=true then 0 else g.len t*g.wid t
   rw[JG h5,h10];cases V:ts.contains t <;> cases J <;> simp
  ·obtain⟨u,O,U⟩:=h11 i j s hi hs;exact⟨u,O,QK U⟩
theorem ym(g:G)(ts:List Tok)(w:World):iu P base g (bB g ts) w w (eO ts):=by
 intro c x v hv;cases c with
 | any=>trivial
 | d s=>exact gA hv
 | kb b=>exact hv
 | own t xm e =>obtain⟨row,hr,hv⟩:=hv;exact⟨row,hr,Dj hv⟩
 | ptr id off=>exact hv
 | eptr tk e off =>
  cases tk with
  | none =>obtain⟨row,b,o,h1,O,J,h4⟩:=hv;refine⟨row,b,o,h1,O,J,fun j s hs=>?_⟩;obtain⟨u,Y,Z,k3⟩:=h4 j s hs;exact⟨u,Y,y8 Z (JP g ts b),gA k3⟩
  | some t =>
   obtain⟨row,h1,O,J,u,h4⟩:=hv;change VC P w (bB g ts) base (.eptr (bif ts.contains t then none else some t) e off) x v;cases V:ts.contains t with
   | false =>have:=Dj (ts:=ts) h4;rw[V] at this;exact⟨row,h1,O,J,u,this⟩
   | true =>
    rcases h4 with⟨h0,_⟩ | ⟨cap,a0,E,Y,Z,k3,k4,k5,k6,k7,k8,k9,k10,k11⟩
    ·rw[h0] at J;simp at J
    ·refine⟨row,g.ρ t,0,h1,by rw[i9];exact O,J,fun j s hs=>?_⟩;obtain⟨u',j1,j2⟩:=k11 _ j s J hs;refine⟨u',by simp only[World.cell?,k6,i9];exact j1,?_,by have:=QK (ts:=ts) j2;rw[V] at this;exact this.vd'⟩;rw[JG k5,V,j8 rfl,i9];have hj:=(g5.1 hs).1;have:eIx x*row.length+row.length<=(dJ x).length*row.length:=by rw[<- C8];exact v7 _ J
     rw[k8] at this;rw[<- k9];exact y8 (by omega) (M3 _ _)
 | inn t e off ei =>
  change VC P w (bB g ts) base (bif ts.contains t then .any else .inn t e off ei) x v;cases V:ts.contains t with
  | true=>trivial
  | false =>refine mZ hv rfl (fun o _ ho=>ho) (fun hu=>?_);have:=Dj (ts:=ts) hu;rw[V] at this;exact this
 | cptr cells off =>obtain⟨b,o,h1,O,J⟩:=hv;refine⟨b,o,h1,O,fun j s hs=>?_⟩;obtain⟨u,Y,Z⟩:=J j s hs;exact⟨u,Y,gA Z⟩
 | fn f caps =>
  obtain⟨a0,h1,O,J⟩:=hv;refine⟨a0,h1,O,fun j c V=>?_⟩;obtain⟨u,hu,U⟩:=J j c V;refine⟨u,hu,?_⟩;cases c with
  | d s=>exact gA U
  | ptr id off=>exact U
  | cptr cells off =>obtain⟨b,o,h1,O,J⟩:=U;refine⟨b,o,h1,O,fun j s hs=>?_⟩;obtain⟨u,Y,Z⟩:=J j s hs;exact⟨u,Y,gA Z⟩
theorem Rel.seal(J:Rel P w g base σ a)(ts:List Tok):Rel P w (bB g ts) base (σ.seal ts) a:=by
 have hk:iu P base g (bB g ts) w w (eO ts):=ym g ts w;refine⟨fun i=>J.envMap hk rfl i,fun id cs ds U=>J.boxMap hk U fun cs ds Y=>?_,fun b O=>?_,J.base_le,J.defers,⟨J.low.1,fun b O=>?_,J.low.2.2⟩,J.mine⟩
 ·obtain⟨k1,V,k3,kl,Z,E,k4,k5⟩:=J.box id cs ds Y;exact⟨rfl,rfl,Es V,rfl⟩
 ·have:=J.fresh b O;exact⟨by rw[FT this.2];exact this.1,this.2⟩
 ·have:=J.low.2.1 b O;exact⟨this.1,by rw[FT this.1];exact this.2.1,this.2.2⟩
theorem TE{ts:List Tok}{c:Ce}{s:S}{x:D}{v:Value}(hv:VC P w g base c x v)(hs:c.toS=some s)(U:∀t J e,c=.own t J e->ts.contains t=true):VD P w (bB g ts).prot s (c.toD x) v:=by
 cases c with
 | d s' =>simp only[Ce.toS,b7] at hs;subst hs;exact gA hv
 | kb b =>simp only[Ce.toS,b7] at hs;subst hs;have hv:v=.bool b:=hv;subst hv;exact VD.bool (.b b)
 | own t J e =>
  simp only[Ce.toS,b7] at hs;subst hs;obtain⟨row,hr,hv⟩:=hv;refine aep hr hv (JP g ts) (fun O=>?_) (fun a0 b Y V=>?_)
  rotate_left
  ·exact Gk Y V (by cases Z:bm t <;> simp_all) (U t J e rfl)
  rcases hv with⟨h0,_⟩ | ⟨cap,arr,E,h1,h2,h3,h4,h5,rest⟩
  ·exact absurd h0 O
  ·rw[JG h5,U t J e rfl,j8 rfl];exact M3 _ _
 | _=>cases hs
theorem CP:∀ {cs:List Ce} {J:List S},DY cs=some J->J.length=cs.length/\∀(j:Nat) s,J[j]?=some s->∃c,cs[j]?=some c/\c.toS=some s
 | [],J,h=>by simp only[DY,b7] at h;subst h;exact⟨rfl,fun j s h=>by simp at h⟩
 | c::cs,J,h=>by
  unfold DY at h
  split at h
  ·rename_i d ds h1 Y;injection h with h
   subst h;obtain⟨U,V⟩:=CP Y;refine⟨by simp[U],fun j s O=>?_⟩;cases j with
   | zero =>simp only[n5,b7] at O;subst O;exact⟨c,rfl,h1⟩
   | succ j=>exact V j s (by simpa using O)
  ·cases h
theorem Lb:∀(cs:List Ce) (ds:b8) (j:Nat) c,cs[j]?=some c->mR cs ds j=c.toD (ds j)
 | [],ds,j,c,h=>by simp at h
 | c0::cs,ds,0,c,h=>by simp only[n5,b7] at h;subst h;rfl
 | c0::cs,ds,j+1,c,h=>by rw[mR,aJ,Lb cs ds.tail j c (by simpa using h),dG]
theorem BL:∀ {cs:List Ce} {t:Tok} {J:Bool} {e:TypeId},Ce.own t J e∈cs->t∈toks cs
 | [],_,_,_,h=>by simp at h
 | c::cs,t,J,e,h=>by
  rcases A2.1 h with h | h
  ·subst h;simp[toks]
  ·have:=BL h;cases c <;> simp[toks,this]
theorem YY{ts:List Tok}{cs:List Ce}{ds:b8}{O:List S}{J:Array Value}(hv:VCs P w g base cs ds J)(hs:DY cs=some O)(ht:∀t∈toks cs,ts.contains t=true) :
  J.size=O.length/\∀(j:Nat) s,O[j]?=some s->∃u,J[j]?=some u/\VD P w (bB g ts).prot s (mR cs ds j) u:=by
 obtain⟨h1,Z⟩:=CP hs;refine⟨by rw[hv.1,h1],fun j s hj=>?_⟩;obtain⟨c,U,Y⟩:=Z j s hj;obtain⟨u,hu,V⟩:=hv.2 j c U;refine⟨u,hu,?_⟩;rw[Lb cs ds j c U];exact TE V Y fun t xm e he=>ht t (BL (he▸w6 U))
theorem PS{ts:List Tok}{c:Ce}{s:S}{x:D}{v:Value}(hv:VC P w g base c x v)(hs:c.aS=some s)(ht:∀t∈pU [c],ts.contains t=true):VD P w (bB g ts).prot s (c.aD x) v:=by
 cases c with
 | inn t e off ei =>
  simp only[Ce.aS,b7] at hs;subst hs;have hc:=ht t (by simp[pU]);obtain⟨row,h1,⟨u,h5⟩,⟨U,Z,Y,h4,a0,E,J,h7,h8⟩ | ⟨U,Z,Y⟩⟩:=hv
  rotate_left
  ·subst Z;show VD P w (bB g ts).prot (.sl ei) (acQ off x) v;unfold acQ;rw[show Nat.ble jj off=true from Nat.ble_eq_true_of_le U,f8];refine Y.mono fun b o z O hz=>⟨hz,?_⟩
   by_cases hb:b=g.ρ t
   ·subst hb;rw[j8 rfl] at O;rcases h5 with⟨hr,_⟩ | ⟨_,a0,E,_,_,_,_,k5,k6,_,k8,k9,_⟩
    ·rw[hr] at O;simp at O
    ·rw[JG k5,hc,j8 rfl,<- k8,<- k9];exact y8 O (M3 _ _)
   ·rw[i7 hb] at O;omega
  have a1:acQ off x=((dJ x).getD (eIx x) []) off:=by unfold acQ;rw[show Nat.ble jj off=false from by cases hq:Nat.ble jj off with | false=>rfl | true=>have:=v5 hq;omega,f5];rfl
  show VD P w (bB g ts).prot (.sl ei) (acQ off x) v;rw[a1];rcases h5 with⟨U,_⟩ | ⟨cap,arr',E',k1,k2,k3,k4,k5,k6,k7,k8,k9,k10,k11⟩
  ·rw[U] at h4;simp at h4
  ·rw[k6] at J;injection J with J
   injection J with J
   subst J;obtain⟨z,V,z2⟩:=k11 _ off _ h4 Z;rw[h7] at V;injection V with V
   subst V;exact TR.vd (z2.tr Y) fun b π n hl=>by rw[<- hl.2.2.2.2.1];exact Gk hl.2.1 hl.2.2.1 Y hc
 | d s'=>exact TE hv hs (fun t xm e h=>by cases h)
 | kb b=>exact TE hv hs (fun t xm e h=>by cases h)
 | own t xm e=>exact TE hv hs (fun t' a2 e' h=>by cases h;exact ht t (by simp[pU]))
 | _=>cases hs
theorem abS:∀ {cs:List Ce} {J:List S},aSs cs=some J->J.length=cs.length/\∀(j:Nat) s,J[j]?=some s->∃c,cs[j]?=some c/\c.aS=some s
 | [],J,h=>by simp only[aSs,b7] at h;subst h;exact⟨rfl,fun j s h=>by simp at h⟩
 | c::cs,J,h=>by
  unfold aSs at h
  split at h
  ·rename_i d ds h1 Y;injection h with h
   subst h;obtain⟨U,V⟩:=abS Y;refine⟨by simp[U],fun j s O=>?_⟩;cases j with
   | zero =>simp only[n5,b7] at O;subst O;exact⟨c,rfl,h1⟩
   | succ j=>exact V j s (by simpa using O)
  ·cases h
theorem abs:∀(cs:List Ce) (ds:b8) (j:Nat) c,cs[j]?=some c->aDs cs ds j=c.aD (ds j)
 | [],ds,j,c,h=>by simp at h
 | c0::cs,ds,0,c,h=>by simp only[n5,b7] at h;subst h;rfl
 | c0::cs,ds,j+1,c,h=>by rw[aDs,aJ,abs cs ds.tail j c (by simpa using h),dG]
theorem QL:∀ {cs:List Ce} {c:Ce} {t:Tok},c∈cs->t∈pU [c]->t∈pU cs
 | [],_,_,h,_=>by simp at h
 | c::cs,c',t,h,ht=>by
  rcases A2.1 h with h | h
  ·subst h;cases c' <;> simp[pU] at ht ⊢
   ·exact .inl ht
   ·exact .inl ht
  ·have:=QL h ht;cases c <;> simp[pU,this]
theorem aaR{ts:List Tok}{cs:List Ce}{ds:b8}{O:List S}{J:Array Value}(hv:VCs P w g base cs ds J)(hs:aSs cs=some O)(ht:∀t∈pU cs,ts.contains t=true) :
  J.size=O.length/\∀(j:Nat) s,O[j]?=some s->∃u,J[j]?=some u/\VD P w (bB g ts).prot s (aDs cs ds j) u:=by
 obtain⟨h1,Z⟩:=abS hs;refine⟨by rw[hv.1,h1],fun j s hj=>?_⟩;obtain⟨c,U,Y⟩:=Z j s hj;obtain⟨u,hu,V⟩:=hv.2 j c U;refine⟨u,hu,?_⟩;rw[abs cs ds j c U];exact PS V Y fun t he=>ht t (QL (w6 U) he)
theorem Kf(hr:Rel P w g base σ a){row:List S}{ts:List Tok}:∀ {J:List (Nat × Operand)} {k:Nat} {rows:List b8} {V:List Tok},Cq σ row J k=some (rows,V)->(∀t∈V,ts.contains t=true) ->
  ∃Y:List Value,J.map (fun p=>(p.1,a.eval p.2))=(Y.zipIdx k).map (fun x=>(x.2,x.1))/\Y.length=J.length/\rows.length=J.length/\(∀v∈Y,v.cells.size=row.length) /\
   ∀(i:Nat) v (j:Nat) s,Y[i]?=some v->row[j]?=some s->∃u,v.cells[j]?=some u/\VD P w (bB g ts).prot s (rows.getD i [] j) u
 | [],k,rows,V,h,_=>by simp only[Cq,b7,i8] at h;obtain⟨rfl,rfl⟩:=h;exact⟨[],rfl,rfl,rfl,fun v hv=>by simp at hv,fun i v j s hi=>by simp at hi⟩
 | (i,x)::r,k,rows,V,h,ht=>by
  unfold Cq at h;cases O:(i==k) with
  | false=>rw[O] at h;cases h
  | true =>
   rw[O,f8] at h;have O:i=k:=by simpa using O
   subst O
   split at h
   ·rename_i cs ds a1 a2 h1 h2;cases U:(DY cs==some row) with
    | false=>rw[U] at h;cases h
    | true =>
     rw[U] at h;have U:DY cs=some row:=by simpa using U
     simp only[f8,b7,i8] at h;obtain⟨rfl,rfl⟩:=h;obtain⟨Y,k1,k2,k3,k4,k5⟩:=Kf hr h2 (fun t Z=>ht t (m7.2 (.inr Z)));obtain⟨a0,_⟩:=rI h1 (cZ hr x);obtain⟨m1,m2⟩:=YY a0 U (fun t Z=>ht t (m7.2 (.inl Z)));refine⟨a.eval x::Y,by simp[k1],by simp[k2],by simp[k3],fun v hv=>?_,fun i v j s hi hs=>?_⟩
     ·rcases A2.1 hv with rfl | hv
      ·exact m1
      ·exact k4 v hv
     ·cases i with
      | zero =>simp only[n5,b7] at hi;subst hi;exact m2 j s hs
      | succ i=>exact k5 i v j s (by simpa using hi) hs
   ·cases h
theorem VD.ext{d:Option Nat}(h:Ext d g g' w w'){s:S}{x:D}{v:Value}(hv:VD P w g.prot s x v):VD P w' g'.prot s x v:=h.vd hv
theorem Kk{w:World}(U:Rel P w g base σ a){d:Nat}(O:d<a.tmps.size){e:TypeId}{row:List S}{rows:List b8}{J:Array Value}(V:bk P e=some row)(Z:J.size=rows.length*row.length){ix:Nat}
  (Y:rows.length<=9223372036854775807) (hv:∀(i j:Nat) s,i<rows.length->row[j]?=some s->∃u,J[i*row.length+j]?=some u/\ci P base (w.alloc (.cells J e)) (du g (d,ix) e w.heap.size rows.length row.length 0) (d,ix) true i j s (rows.getD i [] j) u) :
  Rel P (w.alloc (.cells J e)) (du g (d,ix) e w.heap.size rows.length row.length 0) base (σ.wipe d) a /\
  VT P (w.alloc (.cells J e)) (du g (d,ix) e w.heap.size rows.length row.length 0) base (.c (.own (d,ix) true e) (.l rows)) (.slice (some ⟨w.heap.size,0,none⟩) rows.length rows.length):=by
 have hE:=JW (g:=g) (w:=w) (d,ix) e rows.length row.length 0 (.cells J e);refine⟨U.wipeRow O hE rfl (Gv U _ _ _ _ _ _),row,V,?_⟩;have e1:(du g (d,ix) e w.heap.size rows.length row.length 0).ρ (d,ix)=w.heap.size:=j8 rfl;have e2:(du g (d,ix) e w.heap.size rows.length row.length 0).len (d,ix)=rows.length:=j8 rfl;have e3:(du g (d,ix) e w.heap.size rows.length row.length 0).wid (d,ix)=row.length:=j8 rfl;have e4:(du g (d,ix) e w.heap.size rows.length row.length 0).prot w.heap.size=0:=j8 rfl;have e5:(du g (d,ix) e w.heap.size rows.length row.length 0).owner w.heap.size=some (.inr (d,ix)):=j8 rfl;have e6:(du g (d,ix) e w.heap.size rows.length row.length 0).ety (d,ix)=e:=j8 rfl;refine .inr ⟨rows.length,J,e,by rw[e1];rfl,g8 _,⟨Y,rfl,e6.symm⟩,by rw[e1];exact U.base_le,by rw[e1];exact e5,by rw[e1];exact fw w _,Z,e2.symm,e3.symm,by rw[e1];exact e4,fun i j s hi hs=>?_⟩;exact hv i j s hi hs
theorem Il{w:World}{d:Nat}{e:TypeId}{rows:List b8}{row:List S}{O:Array Value}{ix i j:Nat}{s:S}{x:D}{u:Value}(h:VD P w g.prot s x u)(J:bm (d,ix)=false\/s.flat=true\/x.rows = []/\∃A V,s=.sl V/\(bk P V).isSome=true/\u=.slice A 0 0) :
  ci P base (w.alloc (.cells O e)) (du g (d,ix) e w.heap.size rows.length row.length 0) (d,ix) true i j s x u:=by
 have U:=JW (g:=g) (w:=w) (d,ix) e rows.length row.length 0 (.cells O e);rcases J with J | J | ⟨h0,A,V,rfl,hr,rfl⟩
 ·exact .of_vd (U.vd h) (.inl (by rw[J];rfl))
 ·exact .of_vd (U.vd h) (.inr J)
 ·unfold ci
  split
  ·exact .nil _ _ _ _ hr h0
  ·exact U.vd h
theorem uP(hr:Rel P w g base σ a){o:Oper}{a4:St}{d n:Nat}{t:TypeId}{O:Array (Nat × Operand)}(ho:o.op=.buildSlice t n O)(Z:o.dst=some d)(hd:∀d,o.dst=some d->d<a.tmps.size)
  (h:oy P σ d t n O.toList=some (a4,true)):wU P base a4 o a w:=by
 unfold oy at h
 split at h
 ·rename_i e he
  split at h
  ·rename_i row Y;cases hc:(O.toList.length==n&&decide (n*row.length<=16777216)&&iT P e row) with
   | false=>rw[hc] at h;cases h
   | true =>
    rw[hc,f8] at h;simp only[a9,p6,f7] at hc;obtain⟨⟨hn,a8⟩,hz⟩:=hc
    split at h
    ·rename_i rows ts a5;simp only[b7,i8,C6] at h;subst h;obtain⟨V,k1,k2,k3,k4,k5⟩:=Kf (ts:=ts) hr a5 (fun t ht=>u7.2 ht);obtain⟨ti,v0,hi,b1,hm⟩:=oD hz;have U:=lI Y;have a2:=gH Y;have b2:ti.size=row.length:=by have:=a2;unfold eB at this;rw[hi] at this;injection this
     let a0:Array Value:=(V.flatMap fun v=>v.cells.toList).toArray
     have a7:a0.size=rows.length*row.length:=by
      have:∀l:List Value,(∀v∈l,v.cells.size=row.length)->(l.flatMap fun v=>v.cells.toList).length=l.length*row.length:=by
       intro l hl
       induction l with
       | nil=>simp
       | cons x l ih =>rw[F2,i5,ih (fun v hv=>hl v (by simp[hv])),C2,C8];have:=hl x (by simp);simp[this];omega
      show (V.flatMap fun v=>v.cells.toList).toArray.size=_;rw[z6,this V k4,k2,k3]
     have a1:∀(i j:Nat) s,i<rows.length->row[j]?=some s->∃u,a0[i*row.length+j]?=some u/\VD P w (bB g ts).prot s (rows.getD i [] j) u:=by
      intro i j s hi hs;have hj:=(g5.1 hs).1;have a3:V[i]?=some (V[i]'(by omega)):=g6 (by omega);obtain⟨u,h1,h2⟩:=k5 i _ j s a3 hs;refine⟨u,?_,h2⟩;show (V.flatMap fun v=>v.cells.toList).toArray[i*row.length+j]?=_;rw[F3,Great.flat_get U V k4];have q1:(i*row.length+j) / row.length=i:=by rw[L4,Nat.mul_add_div U,Nat.div_eq_of_lt hj,D4]
      have q2:(i*row.length+j) % row.length=j:=by rw[L4,Nat.mul_add_mod,Nat.mod_eq_of_lt hj]
      rw[q1,q2,a3];exact h1
     have b0:=hr.seal ts;obtain⟨r1,r2⟩:=Kk (d:=d) b0 (hd d Z) Y a7 (by have:rows.length*1<=rows.length*row.length:=Nat.mul_le_mul_left _ U;rw[k3,hn] at this;rw[k3,hn];omega) (ix:=0) (fun i j s hi hs=>by obtain⟨u,k1,k2⟩:=a1 i j s hi hs;exact⟨u,k1,Il k2 (.inl rfl)⟩);have a6:rows.length=n:=by rw[k3];exact hn
     rw[a6] at r1 r2;have J:Instr.fill (fun i=>some (i*row.length,row.length)) ((Array.range (n*row.length)).map ((if n*row.length=0 then #[] else v0.cells)[· % (if n*row.length=0 then #[] else v0.cells).size]!)) (O.map fun p=>(p.1,a.eval p.2)).toList=some a0:=by rw[K1,k1];exact Great.fill_whole U V _ k4 (by rw[k2,<- hn];simp)
     refine⟨.slice (some ⟨w.heap.size,0,none⟩) n n,_,_,.inl ?_,r1.put hd (t:=.c (.own (d,0) true e) (.l rows)) r2 |> fun h=>by rw[Z] at h ⊢;exact h,(Below.refl _ _).alloc hr.base_le _,(Below.refl _ _).alloc (g8 _) _⟩;simp only[execOp,ho,Instr.buildSlice,j7,run_underlying (gV he),eP a2,g7];rw[i7 (by omega)];by_cases h0:n*row.length=0
     ·rw[j8 h0] at J ⊢;simp only[j7,m8,g7];simp only[h0,if_true] at J;rw[show n*row.length=0 from h0] at *;rw[J];simp only[j7,ij,g7,m8]
     ·simp only[i7 h0] at J ⊢;simp only[j7,xO hi b1,m8,g7];rw[J];simp only[j7,ij,g7,m8]
    ·cases h
  ·cases h
 ·cases h
end
section
variable [Low] {P:Program} {w w':World} {g g':G} {base:Nat} {σ:St} {a:Act}
theorem Lm{e:TypeId}(h:Cm P e=true):∃i,P.info? e=some i/\i.bytes<=16384:=by
 unfold Cm at h
 split at h
 ·rename_i i hi;exact⟨i,hi,by simpa using h⟩
 ·cases h
theorem xq(hr:Rel P w g base σ a){o:Oper}{a4:St}{d:Nat}{t:TypeId}{x y:Operand}(ho:o.op=.makeSlice t x y)(Z:o.dst=some d)(hd:∀d,o.dst=some d->d<a.tmps.size)
  {ix:Nat} (h:vx P σ d ix t x y=some (a4,true)):wU P base a4 o a w:=by
 unfold vx at h
 split at h
 ·rename_i e he
  split at h
  ·rename_i row n m O hn hm;simp only[b7,i8,a9,f7] at h;obtain⟨rfl,⟨⟨⟨h0,rfl⟩,h1⟩,hz⟩,b3⟩:=h;obtain⟨k1,hx⟩:=Nn hn (cZ hr x);obtain⟨k2,hy⟩:=Nn hm (cZ hr y);obtain⟨ti,v0,hi,b4,a3⟩:=oD hz;obtain⟨c1,J,hb⟩:=Lm b3;rw[hi] at J;injection J with J;subst J
   have b2:=gH O;have c0:=lI O;obtain⟨b0,hz2⟩:=Dv a3
   let zero:Array Value:=if n.toNat*row.length=0 then #[] else v0.cells
   let V:Array Value:=(Array.range (n.toNat*row.length)).map (zero[· % zero.size]!)
   have a6:V.size=(List.replicate n.toNat (row.map li)).length*row.length:=by simp[V]
   have a1:∀(i j:Nat) s,i<(List.replicate n.toNat (row.map li)).length->row[j]?=some s->∃u,V[i*row.length+j]?=some u/\ci P base (w.alloc (.cells V e)) (du g (d,ix) e w.heap.size (List.replicate n.toNat (row.map li)).length row.length 0) (d,ix) true i j s (((List.replicate n.toNat (row.map li)).getD i []) j) u:=by
    intro i j s J hs;have hj:=(g5.1 hs).1;have a2:i<n.toNat:=by simpa using J
    obtain⟨u,hu,hv,b5⟩:=hz2 j s hs;have a7:i*row.length+j<n.toNat*row.length:=by have:(i+1)*row.length<=n.toNat*row.length:=v7 _ a2;rw[C8] at this;omega
    have Y:zero=v0.cells:=by show (if _ then _ else _)=_;rw[i7 (by omega)]
    have b6:zero.size=row.length:=by rw[Y];simpa using b0
    refine⟨u,?_,?_⟩
    ·show ((Array.range (n.toNat*row.length)).map (zero[· % zero.size]!))[i*row.length+j]?=_;rw[G2,Array.getElem?_range,j8 a7,B1,b6];rw[L4,Nat.mul_add_mod,Nat.mod_eq_of_lt hj,Y];have:v0.cells[j]?=some u:=by simpa using hu
     rw[getElem!_def,this]
    ·have e:(List.replicate n.toNat (row.map li)).getD i []=row.map li:=by rw[f9,List.getElem?_replicate,j8 a2];rfl
     rw[e,GK row j s hs];refine Il (hv w g.prot) ?_;cases s with
     | sl e' =>obtain⟨rfl,r,a8⟩:=b5 e' rfl;exact .inr (.inr ⟨rfl,none,e',rfl,by rw[a8];rfl,rfl⟩)
     | opq=>exact absurd hs (abx a3 j)
     | _=>exact .inr (.inl rfl)
   obtain⟨r1,r2⟩:=Kk (d:=d) hr (hd d Z) O a6 (by simp;omega) a1;have a5:(List.replicate n.toNat (row.map li)).length=n.toNat:=by simp
   rw[a5] at r1 r2;refine⟨.slice (some ⟨w.heap.size,0,none⟩) n.toNat n.toNat,_,_,.inl ?_,r1.put hd (t:=.c (.own (d,ix) true e) (.l _)) r2 |> fun h=>by rw[Z] at h ⊢;exact h,(Below.refl _ _).alloc hr.base_le _,(Below.refl _ _).alloc (g8 _) _⟩;have hw:IntKind.i64.wrap n=n:=IntWalk.i64_in _ (by omega);have c2:(ti.bytes:Int)*n<=16384*4294967296:=by
    have h2:ti.bytes*n.toNat<=16384*4294967296:=Nat.mul_le_mul hb (by omega);have:((ti.bytes*n.toNat:Nat):Int)<=((16384*4294967296:Nat):Int):=by exact_mod_cast h2
    rw[Int.natCast_mul,Int.toNat_of_nonneg h0] at this;exact this
   have b1:¬(n<0\/(ti.bytes:Int)*n > 2 ^ 48):=by
    have:(16384*4294967296:Int)<=2 ^ 48:=by decide
    omega
   simp only[execOp,ho,hx,hy,Instr.makeSlice,j7,run_underlying (gV he),g7,asInt,asIntOf,m8,typeInfo,program,Sem.run,hi,hw];rw[i7 (by simp;omega)];have a0:(askRoom (n.toNat*ti.bytes)).run P w=.ok () w:=by unfold askRoom;split <;> simp[mark,Sem.run]
   simp only[j7,a0,g7,eP b2];by_cases U:n.toNat*row.length=0
   ·rw[j8 U];have:zero = #[]:=j8 U;simp only[j7,m8,g7];rw[<- this];simp only[j7,ij,g7,m8];rfl
   ·rw[i7 U];have:zero=v0.cells:=i7 U;simp only[j7,xO hi b4,m8,g7];rw[<- this];simp only[j7,ij,g7,m8];rfl
  ·cases h
 ·cases h
theorem Am{O:Type}:∀(xs l:List O) (o k:Nat),(fj l o xs)[k]?=if o<=k/\k<o+xs.length/\k<l.length then xs[k - o]? else l[k]?
 | [],l,o,k=>by rw[fj,i7 (by simp;omega)]
 | x::xs,l,o,k=>by
  rw[fj,Am xs (l.set o x) (o+1) k];simp only[List.length_set,C2];by_cases hk:o=k
  ·subst hk;rw[i7 (by omega)];by_cases J:o<l.length
   ·rw[j8 ⟨g8 _,by omega,J⟩];simp[J]
   ·rw[i7 (by omega),G1 (by simp;omega),G1 (by omega)]
  ·by_cases hin:o+1<=k/\k<o+1+xs.length/\k<l.length
   ·rw[j8 hin,j8 (by omega)];rw[show k - o=(k - (o+1))+1 from by omega,I5]
   ·rw[i7 hin,i7 (by omega),List.getElem?_set_ne hk]
theorem fT{J:Type}:∀(xs l:List J) (o:Nat),(fj l o xs).length=l.length
 | [],l,o=>rfl
 | x::xs,l,o=>by rw[fj,fT xs,List.length_set]
theorem Ri(xs l:b8)(o k:Nat)(O:k<l.length):fj l o xs k=if o<=k/\k<o+xs.length then xs (k - o) else l k:=by
 unfold gd;rw[f9,Am]
 split
 ·rename_i h;rw[j8 ⟨h.1,h.2.1⟩,f9]
 ·rename_i h;rw[i7 (fun J=>h ⟨J.1,J.2,O⟩),f9]
theorem Mg{cs J:List Ce}{ds a0:b8}{U O us:Array Value}{off:Nat}(hv:VCs P w g base cs ds U)(hu:VCs P w g base J a0 us)(a4:off+J.length<=cs.length)(a2:ds.length=cs.length)(Y:a0.length=J.length)
  (a3:O.size=U.size) (a1:∀k,k<U.size->O[k]?=if off<=k/\k<off+us.size then us[k - off]? else U[k]?):VCs P w g base (fj cs off J) (fj ds off a0) O:=by
 refine⟨by rw[a3,hv.1,fT],fun j c V=>?_⟩;have Z:j<cs.length:=by
  have:=(g5.1 V).1
  rwa [fT] at this
 rw[Am] at V;rw[a1 j (by rw[hv.1];exact Z),Ri _ _ _ _ (by rw[a2];exact Z)];by_cases hin:off<=j/\j<off+J.length
 ·rw[j8 ⟨hin.1,hin.2,Z⟩] at V;rw[j8 (by rw[hu.1];exact hin),j8 (by rw[Y];exact hin)];exact hu.2 _ c V
 ·rw[i7 (fun h=>hin ⟨h.1,h.2.1⟩)] at V;rw[i7 (by rw[hu.1];exact hin),i7 (by rw[Y];exact hin)];exact hv.2 _ c V
theorem Ld{w:World}:∀(J:List Field),(∀f∈J,(eB P f.type).isSome=true)->(J.mapM fun f=>(do pure (f.offset,<- sizeOf f.type):Sem (Nat × Nat))).run P w=.ok (J.map fun f=>(f.offset,(eB P f.type).getD 0)) w
 | [],_=>by simp
 | f::J,h=>by obtain⟨n,hn⟩:=B6.1 (h f (by simp));have U:=Ld (w:=w) J (fun f O=>h f (by simp[O]));simp only[List.mapM_cons,j7,eP hn,g7,m8,U,u5,hn,w3]
theorem Hz(hr:Rel P w g base σ a){t:TypeId}{fs:Array Field}(hu:P.underlying t=some (.struct fs)):∀ {a1:List (Nat × Operand)} {cs a0:List Ce} {ds Z:b8} {J:Array Value},
  wu P t σ a1 (cs,ds)=some (a0,Z)->VCs P w g base cs ds J->ds.length=cs.length ->
  ∃V,Instr.fill ((fs.map fun f=>(f.offset,(eB P f.type).getD 0))[·]?) J (a1.map fun p=>(p.1,a.eval p.2))=some V/\VCs P w g base a0 Z V
 | [],cs,a0,ds,Z,J,h,hv,_=>by simp only[wu,b7,i8] at h;obtain⟨rfl,rfl⟩:=h;exact⟨J,rfl,hv⟩
 | (i,x)::r,cs,a0,ds,Z,J,h,hv,hl=>by
  unfold wu at h
  split at h
  ·rename_i off ft Y a6 hf hc;cases U:(eB P ft==some Y.length&&Nat.ble (off+Y.length) cs.length) with
   | false=>rw[U] at h;cases h
   | true =>
    rw[U,f8] at h;simp only[a9,p6] at U;obtain⟨U,a2⟩:=U;have a2:off+Y.length<=cs.length:=v5 a2;obtain⟨a8,f,O,a7,rfl,rfl⟩:=Ft hf;rw[hu] at O;injection O with O;injection O with O;subst O
    obtain⟨hx,_⟩:=rI hc (cZ hr x);obtain⟨g1,g2⟩:=Great.foldl_set f.offset (a.eval x).cells.toList 0 J
    let a3:=((a.eval x).cells.toList.zipIdx 0).foldl (fun cs (x:Value × Nat)=>cs.setIfInBounds (f.offset+x.2) x.1) J
    have a4:VCs P w g base (fj cs f.offset Y) (fj ds f.offset a6) a3:=by
     refine Mg hv hx a2 hl (uD hc) g1 fun k hk=>?_
     rw[g2 k];simp only[D4,E6];by_cases hin:f.offset<=k/\k<f.offset+(a.eval x).cells.size
     ·rw[j8 ⟨hin.1,hin.2,hk⟩,j8 hin];simp
     ·rw[i7 (fun h=>hin ⟨h.1,h.2.1⟩),i7 hin]
    obtain⟨V,k1,k2⟩:=Hz hr hu h a4 (by rw[fT,fT];exact hl);refine⟨V,?_,k2⟩;simp only[u5];unfold Instr.fill;have a5:(fs.map fun f=>(f.offset,(eB P f.type).getD 0))[i]?=some (f.offset,Y.length):=by rw[G2,a7];simp[U]
    simp only[a5];rw[i7 (by simp only[hx.1];simp;rw[hv.1];exact a2)];rw[<- k1]
    congr 1
    rw[<- Array.foldl_toList,Array.toList_zipIdx]
  ·cases h
theorem Ma(hr:Rel P w g base σ a){o:Oper}{a0:St}{d:Nat}{b:Bool}{t:TypeId}{O:Array (Nat × Operand)}(ho:o.op=.build t O)(Y:o.dst=some d)(hd:∀d,o.dst=some d->d<a.tmps.size)
  (h:TM P σ d b t O.toList=some (a0,true)):wU P base a0 o a w:=by
 unfold TM at h
 split at h
 ·rename_i row a5
  split at h
  ·rename_i cs ds hl;cases hz:(iT P t row&&Oh P t) with
   | false=>rw[hz] at h;cases h
   | true =>
    rw[hz] at h;simp only[l8,f5,b7,i8,C6] at h;subst h;simp only[a9] at hz;obtain⟨hz,U⟩:=hz;obtain⟨ti,v0,hi,a2,a3⟩:=oD hz;obtain⟨J,hu,a4⟩:∃J,P.underlying t=some (.struct J)/\∀f∈J.toList,(eB P f.type).isSome=true:=by
     unfold Oh at U
     split at U
     ·rename_i J hu;exact⟨J,hu,fun f hf=>i6.1 U f hf⟩
     ·cases U
    have Z:=hr.wipeRow (hd d Y) (Qd g d w) rfl hr.fresh;obtain⟨V,k1,k2⟩:=Hz Z hu hl (Xh a3 d 0 (fun i=>j8 rfl)) (by simp[nW]);refine⟨.agg V,w,Yc g d,.inl ?_,Z.put hd (t:=⟨.one (.agg cs),ds⟩) ⟨V,rfl,k2⟩ |> fun h=>by rw[Y] at h ⊢;exact h,Below.refl _ _,Below.refl _ _⟩;have a1:(J.mapM fun f=>(do pure (f.offset,<- sizeOf f.type):Sem (Nat × Nat))).run P w=.ok (J.map fun f=>(f.offset,(eB P f.type).getD 0)) w:=by
     rw[K4];simp only[map_eq_pure_bind,j7,Ld J.toList a4,g7,m8]
     congr 1
     rw[<- K1,Array.toArray_toList]
    simp only[execOp,ho,Instr.build,j7,xO hi a2,run_underlying hu,g7];rw[a1];simp only[g7];rw[K1,k1];simp only[m8];rfl
  ·cases h
 ·cases h
end
section
variable [Low] {P:Program} {w w':World} {g g':G} {base:Nat} {σ:St} {a:Act}
theorem Sh1.map_id'(s:Sh1):s.map (fun c=>c)=s:=by cases s <;> simp[Sh1.map]
theorem Sh.map_id'(s:Sh):s.map (fun c=>c)=s:=by
 cases s with
 | one x=>simp[Sh.map,Sh1.map_id']
 | tup xs =>
  simp only[Sh.map]
  congr 1
  induction xs with
  | nil=>rfl
  | cons x xs J=>simp only[u5,Sh1.map_id',J]
theorem iu.vt'(h:iu P base g g' w w' (fun c=>c)){t:T}{v:Value}(hv:VT P w g base t v):VT P w' g' base t v:=by
 have:=h.vt hv
 rwa [Sh.map_id'] at this
theorem iu.vcs'(h:iu P base g g' w w' (fun c=>c)){cs:List Ce}{p:b8}{J:Array Value}(hv:VCs P w g base cs p J):VCs P w' g' base cs p J:=by
 have:=h.vcs hv
 rwa [List.map_id'] at this
theorem Yz{nb:Nat}(U:∀b,b≠nb->w'.heap[b]?=w.heap[b]?)(hp:g.prot nb=0)(ho:∀t,g.owner nb≠some (.inr t))(a3:∀b,g.old b->b≠nb):iu P base g g w w' (fun c=>c):=by
 have Z:∀ {s:S} {x:D} {v:Value},VD P w g.prot s x v->VD P w' g.prot s x v:=fun h =>h.mono fun b o u h1 J=>⟨(bd (U b (by rintro rfl;omega)) o).trans J,h1⟩
 have Y:∀ {t:Tok} {xm:Bool} {e:TypeId} {row:List S} {rows:List b8} {v:Value},dp P w g base t xm e row rows v->dp P w' g base t xm e row rows v:=by
  intro t xm e row rows v h;rcases h with h | ⟨cap,a1,E,h1,J,O,h4,h5,h6,h7,h8,h9,h10,h11⟩
  ·exact .inl h
  ·refine .inr ⟨cap,a1,E,h1,J,O,h4,h5,by rw[U _ (by intro e;rw[e] at h5;exact ho t h5)];exact h6,h7,h8,h9,h10,fun i j s hi hs=>?_⟩;obtain⟨u,k1,k2⟩:=h11 i j s hi hs;exact⟨u,k1,k2.mono rfl (fun b o z h1 J=>⟨(bd (U b (by rintro rfl;omega)) o).trans J,h1⟩) (fun _ b o h0 a2 a4 a5=>⟨by rw[U b (by rintro rfl;exact ho t a2)];exact a5,h0,a2,a4,rfl,rfl,fun e=>e⟩)⟩
 have a0:∀ {cells:List S} {off:Nat} {x:D} {v:Value},fU P w g base cells off x v->fU P w' g base cells off x v:=by rintro cells off x v ⟨b,o,h1,J,O⟩;refine⟨b,o,h1,J,fun j s hs=>?_⟩;obtain⟨u,k1,k2⟩:=O j s hs;exact⟨u,(bd (U b (a3 b J)) _).trans k1,Z k2⟩
 intro c x v hv;cases c with
 | any=>trivial
 | d s=>exact Z hv
 | kb b=>exact hv
 | own t xm e=>obtain⟨row,hr,hv⟩:=hv;exact⟨row,hr,Y hv⟩
 | ptr id off=>exact hv
 | eptr tk e off =>
  cases tk with
  | none =>obtain⟨row,b,o,h1,J,O,h4⟩:=hv;refine⟨row,b,o,h1,J,O,fun j s hs=>?_⟩;obtain⟨u,k1,k2,k3⟩:=h4 j s hs;exact⟨u,(bd (U b (by rintro rfl;omega)) _).trans k1,k2,Z k3⟩
  | some t=>obtain⟨row,h1,J,O,u,h4⟩:=hv;exact⟨row,h1,J,O,u,Y h4⟩
 | inn t e off ei=>exact mZ hv rfl (fun o h5 h6=>by rw[U _ (by intro e;rw[e] at h5;exact ho t h5)];exact h6) Y
 | cptr cells off=>exact a0 hv
 | fn f caps =>
  obtain⟨a1,h1,J,O⟩:=hv;refine⟨a1,h1,J,fun j c hc=>?_⟩;obtain⟨u,hu,V⟩:=O j c hc;refine⟨u,hu,?_⟩;cases c with
  | d s=>exact Z V
  | ptr id off=>exact V
  | cptr cells off=>exact a0 V
theorem nJ{v:Value}(h:DR v=true):v.oneCell'=true:=by cases v <;> simp_all [DR,Value.oneCell']
theorem xC{cs:List Ce}{ds:b8}{J:Array Value}(h:VCs P w g base cs ds J)(hn:∀c∈cs,c≠.any):∀v∈J.toList,v.oneCell'=true:=by
 intro v hv;obtain⟨j,V⟩:=E7 hv;have U:j<cs.length:=by rw[<- h.1];simpa using (g5.1 V).1
 obtain⟨u,h1,Y⟩:=h.2 j _ (g6 U);have:v=u:=by
  have O:J[j]?=some v:=by simpa using V
  rw[h1] at O;injection O with O;exact O.symm
 subst this;exact nJ (Y.flat (hn _ (p9 U)))
def gZ(J:Array Value)(o:Nat)(O:List Value):Array Value:=(J.toList.take o++O++J.toList.drop (o+O.length)).toArray
theorem CI(O:Array Value)(o:Nat)(J:List Value)(h:o+J.length<=O.size)(k:Nat):(gZ O o J)[k]?=if o<=k/\k<o+J.length then J[k - o]? else O[k]?:=by
 unfold gZ;rw[F3];have U:(O.toList.take o).length=o:=by simp;omega
 by_cases h1:k<o
 ·rw[i7 (by omega),z7,v9 (by omega),s7,j8 h1];simp
 ·by_cases V:k<o+J.length
  ·rw[j8 ⟨by omega,V⟩,z7,A5 (by omega),U,v9 (by omega)]
  ·rw[i7 (by omega),A5 (by simp;omega)];simp only[i5,U,y0];rw[show o+J.length+(k - (o+J.length))=k from by omega];simp
theorem yl(J:Array Value)(o:Nat)(O:List Value)(h:o+O.length<=J.size):(gZ J o O).size=J.size:=by unfold gZ;simp only[z6,i5,s9,t5,E6];omega
theorem HL{t n b o:Nat}{u:Value}{J:Array Value}{E:TypeId}(hn:eB P t=some n)(O:u.cells.size=n)(U:w.heap[b]?=some (.cells J E (0,0)))(V:o+n<=J.size)(h1:∀v∈u.cells.toList,v.oneCell'=true) :
  (Instr.storeAt t (.pointer (some ⟨b,o,none⟩)) u).run P w=.ok () (w.setRow b (gZ J o u.cells.toList)):=by
 simp only[Instr.storeAt,Instr.sureAddr,storeVar,j7,m8,g7,eP hn];rw[i7 (by simp[O])];have:=run_storeCells_at P b o E u.cells.toList 0 J w U (by simp[O];omega) h1;simp only[D4] at this;exact this
def QC(P:Program)(base:Nat)(J:St)(o:Oper)(p:Operand)(a:Act)(w:World):Prop:=
 ∃z w' g',((execOp a.eval o).run P w=.ok (.value z) w'\/((execOp a.eval o).run P w=.ok .skip w'/\z=undef))/\Rel P w' g' base J (a.put o.dst z)/\Below base w w' /\
  ∀B,(∀b o,a.eval p=.pointer (some ⟨b,o,none⟩)->B<=b)->Below B w w'
theorem QC.does{o:Oper}{J:St}{p:Operand}(h:QC P base J o p a w):TS P base J o a w:=by obtain⟨z,w',g',h1,O,U,_⟩:=h;exact⟨z,w',g',h1,O,U⟩
theorem Vd(U:Rel P w g base σ a){o:Oper}{t n id off:Nat}{x p:Operand}{cs Z:List Ce}{ds a1:b8}{pp:b8}(ho:o.op=.store t p x)(hd:∀d,o.dst=some d->d<a.tmps.size)(hn:eB P t=some n)
  (hc:(agt P σ t x).cells=some (cs,ds)) (hl:cs.length=n) (hp:(opd σ p)=⟨.one (.c (.ptr id off)),pp⟩) (V:bH id σ.h=some (Z,a1)) (a3:off+n<=Z.length) :
  QC P base (St.put ⟨σ.r,σ.e,rU id (fj Z off cs,fj a1 off ds) σ.h⟩ o.dst .none_) o p a w:=by
 have a0:=cZ U p;rw[hp] at a0;have a0:a.eval p=.pointer (some ⟨g.θ id,off,none⟩):=a0;obtain⟨hx,b2⟩:=rI hc (ZX U t x);obtain⟨k1,k2,k3,kl,O,E,k4,k5⟩:=U.box id Z a1 V;have a7:(a.eval x).cells.toList.length=n:=by simp[hx.1,hl]
 have a2:off+(a.eval x).cells.toList.length<=O.size:=by rw[a7,k5.1];exact a3
 have b0:=HL (P:=P) (w:=w) (b:=g.θ id) (o:=off) hn (by rw[hx.1,hl]) k4 (by rw[k5.1];exact a3) (xC hx b2);have J:∀b,b≠g.θ id->(w.setRow (g.θ id) (gZ O off (a.eval x).cells.toList)).heap[b]?=w.heap[b]?:=fun b V=>setRow_other w (g.θ id) b _ V
 have hk:iu P base g g w (w.setRow (g.θ id) (gZ O off (a.eval x).cells.toList)) (fun c=>c):=Yz J k3 (by intro t e;rw[k2] at e;cases e) (fun b V=>U.oldNe V k2);have Y:(w.setRow (g.θ id) (gZ O off (a.eval x).cells.toList)).heap.size=w.heap.size:=by simp[World.setRow]
 have a8:Rel P (w.setRow (g.θ id) (gZ O off (a.eval x).cells.toList)) g base ⟨σ.r,σ.e,rU id (fj Z off cs,fj a1 off ds) σ.h⟩ a:=by
  refine⟨fun i=>hk.vt' (U.env i),fun a6 b4 b3 h1=>?_,by rw[Y];exact U.fresh,by rw[Y];exact U.base_le,U.defers,U.lowIn (fun b V=>J b (U.oldNe V k2)) (C5 Y.symm) (fun b t O e _ a5 _ V _=>⟨O,(J b (by intro e';rw[e',k2] at a5;cases a5)).trans V,rfl⟩),U.mine⟩;rw[oX] at h1;by_cases e:a6=id
  ·subst e;rw[j8 rfl] at h1;injection h1 with h1
   injection h1 with e1 e2
   subst e1;subst e2;refine⟨k1,k2,k3,by rw[fT,fT];exact kl,_,E,setRow_heap w _ O _ E _ k4,?_⟩;exact Mg (hk.vcs' k5) (hk.vcs' hx) (by rw[hl];exact a3) kl (uD hc) (yl _ _ _ a2) (fun k a4=>by rw[CI _ _ _ a2];simp)
  ·rw[i7 e] at h1;obtain⟨j1,j2,j3,jl,b1,E',j4,j5⟩:=U.box a6 b4 b3 h1;refine⟨j1,j2,j3,jl,b1,E',by rw[J _ (by intro e';rw[e'] at j2;rw[k2] at j2;injection j2 with j2;injection j2 with j2;exact e j2.symm)];exact j4,hk.vcs' j5⟩
 refine⟨undef,_,g,.inr ⟨?_,rfl⟩,a8.put hd (t:=.none_) ⟨#[],rfl,rfl,fun j x h=>by simp at h⟩,⟨rfl,rfl,rfl,by rw[Y];exact g8 _,fun k a4=>J k (by omega)⟩,fun B hB=>⟨rfl,rfl,rfl,by rw[Y];exact g8 _,fun k a4=>J k (by have:=hB _ _ a0;omega)⟩⟩;simp only[execOp,ho,a0,j7,b0,g7,m8]
theorem iJ{t:Tok}(V:∀b o u,o<g.prot b->w.cell? ⟨b,o,none⟩=some u->w'.cell? ⟨b,o,none⟩=some u/\o<g'.prot b)
  (a3:∀b J,J≠t->g.owner b=some (.inr J)->b<w.heap.size->w'.heap[b]?=w.heap[b]?/\g'.owner b=g.owner b/\g'.prot b=g.prot b)
  (a1:∀J,J≠t->g'.ρ J=g.ρ J/\g'.len J=g.len J/\g'.wid J=g.wid J/\g'.ety J=g.ety J) (a7:g'.θ=g.θ) (a8:∀b,g.old b->w'.heap[b]?=w.heap[b]?) (b1:∀b J,J≠t->g.owner b=some (.inr J)->b<w.heap.size->g'.path b=g.path b/\g'.need b=g.need b:=by exact fun _ _ _ _ _=>⟨rfl,rfl⟩) (b0:g'.old=g.old:=by rfl):iu P base g g' w w' (bt t):=by
 have Z:∀ {s:S} {x:D} {v:Value},VD P w g.prot s x v->VD P w' g'.prot s x v:=fun h=>h.mono V
 have a0:∀ {J:Tok} {xm:Bool} {e:TypeId} {row:List S} {rows:List b8} {v:Value},J≠t->dp P w g base J xm e row rows v->dp P w' g' base J xm e row rows v:=by
  intro J xm e row rows v O h;obtain⟨e1,e2,e3,e4⟩:=a1 J O;rcases h with⟨h0,h1,U⟩ | ⟨cap,a5,E,h1,U,Y,h4,h5,h6,h7,h8,h9,h10,h11⟩
  ·exact .inl ⟨h0,by rw[e2];exact h1,U⟩
  ·obtain⟨q1,q2,q3⟩:=a3 _ J O h5 (aT h6);refine .inr ⟨cap,a5,E,by rw[e1];exact h1,U,by rw[e4];exact Y,by rw[e1];exact h4,by rw[e1,q2];exact h5,by rw[e1,q1];exact h6,h7,by rw[e2];exact h8,by rw[e3];exact h9,by rw[e1,e2,e3,q3];exact h10,fun i j s hi hs=>?_⟩;obtain⟨u,k1,k2⟩:=h11 i j s hi hs;exact⟨u,k1,k2.mono rfl V (fun _ b o h0 ho b2 hb=>by have a6:=aT hb;obtain⟨z1,z2,z3⟩:=a3 b J O ho a6;obtain⟨z4,z5⟩:=b1 b J O ho a6;exact⟨z1.trans hb,h0,z2.trans ho,by rw[e1];exact b2,z4,z5,fun e=>z3.trans e⟩)⟩
 have a4:∀ {cells:List S} {off:Nat} {x:D} {v:Value},fU P w g base cells off x v->fU P w' g' base cells off x v:=by rintro cells off x v ⟨b,o,h1,U,Y⟩;refine⟨b,o,h1,by rw[b0];exact U,fun j s hs=>?_⟩;obtain⟨u,k1,k2⟩:=Y j s hs;exact⟨u,(bd (a8 b U) _).trans k1,Z k2⟩
 intro c x v hv;cases c with
 | any=>trivial
 | d s=>exact Z hv
 | kb b=>exact hv
 | own J xm e =>
  obtain⟨row,hr,hv⟩:=hv;change VC P w' g' base (bif J==t then (bif xm then .any else .d (.sl e)) else .own J xm e) x v;by_cases O:J=t
  ·rw[show (J==t)=true from by simpa using O,f8];cases xm with
   | true=>trivial
   | false=>exact Z (nO hr hv)
  ·rw[show (J==t)=false from by simpa using O,f5];exact⟨row,hr,a0 O hv⟩
 | ptr id off=>show v=_;rw[a7];exact hv
 | eptr tk e off =>
  cases tk with
  | none =>obtain⟨row,b,o,h1,U,Y,h4⟩:=hv;refine⟨row,b,o,h1,U,Y,fun j s hs=>?_⟩;obtain⟨u,k1,k2,k3⟩:=h4 j s hs;obtain⟨q1,q2⟩:=V b _ u k2 k1;exact⟨u,q1,q2,Z k3⟩
  | some J =>
   change VC P w' g' base (bif J==t then .any else .eptr (some J) e off) x v;by_cases O:J=t
   ·rw[show (J==t)=true from by simpa using O];trivial
   ·rw[show (J==t)=false from by simpa using O,f5];obtain⟨row,h1,U,Y,u,h4⟩:=hv;exact⟨row,h1,by rw[(a1 J O).1];exact U,Y,u,a0 O h4⟩
 | inn J e off ei =>
  change VC P w' g' base (bif J==t then .any else .inn J e off ei) x v;by_cases O:J=t
  ·rw[show (J==t)=true from by simpa using O];trivial
  ·rw[show (J==t)=false from by simpa using O,f5];exact mZ hv (a1 J O).1 (fun o h5 h6=>(a3 _ J O h5 (aT h6)).1.trans h6) (fun hu=>a0 O hu)
 | cptr cells off=>exact a4 hv
 | fn f caps =>
  obtain⟨a5,h1,U,Y⟩:=hv;refine⟨a5,h1,U,fun j c hc=>?_⟩;obtain⟨u,hu,a2⟩:=Y j c hc;refine⟨u,hu,?_⟩;cases c with
  | d s=>exact Z a2
  | ptr id off=>show u=_;rw[a7];exact a2
  | cptr cells off=>exact a4 a2
theorem Rel.drop(O:Rel P w g base σ a){t:Tok}(hk:iu P base g g' w w' (bt t))(a2:g'.θ=g.θ)
  (a5:∀b id,g.owner b=some (.inl id)->b<w.heap.size->w'.heap[b]?=w.heap[b]?/\g'.owner b=g.owner b/\g'.prot b=g.prot b)
  (hf:∀b,w'.heap.size<=b->g'.prot b=0/\g'.owner b=none) (a0:w.heap.size<=w'.heap.size) (a4:∀b,g.old b->g'.owner b=g.owner b/\g'.prot b=g.prot b/\w'.heap[b]?=w.heap[b]?) (V:g'.old=g.old:=by rfl) (a7:∀J,J.1=1000001->g'.ρ J=g.ρ J/\g'.len J=g.len J/\∀b,g.owner b=some (.inr J)->b<w.heap.size->g'.owner b=some (.inr J)/\w'.heap[b]?=w.heap[b]?)
  (a6:∀b J,J.1=1000001->g'.owner b=some (.inr J)->g.owner b=some (.inr J)/\g'.path b=g.path b/\g'.need b=g.need b):Rel P w' g' base (σ.map (bt t)) a:=by
 refine⟨fun i=>O.envMap hk rfl i,fun id cs ds hl=>O.boxMap hk hl fun cs ds hq=>?_,hf,o8 O.base_le a0,O.defers,⟨⟨V.trans O.low.1.1,by rw[a2];exact O.low.1.2⟩,fun b hb=>by
  rw[V] at hb;obtain⟨U,k2,k3,k4⟩:=O.low.2.1 b hb;obtain⟨Y,q2,Z⟩:=a4 b hb;exact⟨Y.trans U,q2.trans k2,Z.trans k3,y8 k4 a0⟩,fun t x hx=>by
  obtain⟨U,k2,k3,k4⟩:=O.low.2.2 t x hx;obtain⟨Y,q2,Z⟩:=a7 t U;refine⟨U,Y.trans k2,q2.trans k3,fun h0=>?_⟩;obtain⟨m1,a3,m2,m3⟩:=k4 h0;obtain⟨z1,z2⟩:=Z _ m1 (aT m2);exact⟨z1,a3,z2.trans m2,m3⟩⟩,fun b J a1 ho=>by
  obtain⟨z1,z2,z3⟩:=a6 b J a1 ho;rw[z2,z3];exact O.mine b J a1 z1⟩
 obtain⟨U,k2,k3,kl,a3,E,k4,k5⟩:=O.box id cs ds hq;obtain⟨Y,q2,Z⟩:=a5 _ id k2 (aT k4);exact⟨by rw[a2],q2,Z,Y⟩
end
section
variable [Low] {P:Program} {w w':World} {g g':G} {base:Nat} {σ:St} {a:Act}
def uZ(g:G)(t s:Tok)(f:List (Nat × Nat)->List (Nat × Nat))(top:Option (List (Nat × Nat))):G:=
 { g with owner:=fun b=>if g.owner b=some (.inr t) then (if b=g.ρ t then (if top.isSome=true then some (.inr s) else some (.inr t)) else some (.inr s)) else g.owner b,path:=fun b=>if g.owner b=some (.inr t) then (if b=g.ρ t then top.getD [] else f (g.path b)) else g.path b,need:=fun b=>if g.owner b=some (.inr t)/\b=g.ρ t then g.len t*g.wid t else g.need b }
theorem kq{t J:Tok}(O:t.1≠1000001)(h:J.1=1000001):J≠t:=fun e=>O (by rw[<- e];exact h)
theorem jR{t s:Tok}{f:List (Nat × Nat)->List (Nat × Nat)}{top:Option (List (Nat × Nat))}{b:Nat}(h:g.owner b≠some (.inr t)):(uZ g t s f top).owner b=g.owner b/\(uZ g t s f top).path b=g.path b/\(uZ g t s f top).need b=g.need b:=
 ⟨i7 h,i7 h,i7 (fun e=>h e.1)⟩
theorem xZ(hr:Rel P w g base σ a){t s:Tok}(Y:t.1≠1000001)(a0:s.1≠1000001){f:List (Nat × Nat)->List (Nat × Nat)}{top:Option (List (Nat × Nat))}:iu P base g (uZ g t s f top) w w (bt t)/\Rel P w (uZ g t s f top) base (σ.map (bt t)) a:=by
 have V:∀ {b:Nat} {U:Tok},U≠t->g.owner b=some (.inr U)->g.owner b≠some (.inr t):=fun ht J e=>by rw[J] at e;injection e with e;injection e with e;exact ht e
 have hk:iu P base g (uZ g t s f top) w w (bt t):=
  iJ (fun b o u h1 h2=>⟨h2,h1⟩) (fun b U O J _=>⟨rfl,(jR (V O J)).1,rfl⟩) (fun _ _=>⟨rfl,rfl,rfl,rfl⟩) rfl (fun _ _=>rfl) (fun b U O J _=>(jR (V O J)).2)
 refine⟨hk,hr.drop hk rfl (fun b id J _=>⟨rfl,(jR (by rw[J];simp)).1,rfl⟩) (fun b hb=>?_) (g8 _) (fun b hb=>⟨(jR (by rw[(hr.low.2.1 b hb).1];simp)).1,rfl,rfl⟩) rfl (fun U O=>⟨rfl,rfl,fun b J _=>⟨(jR (V (kq Y O) J)).1.trans J,rfl⟩⟩) (fun b U O J=>?_)⟩
 rotate_right
 ·by_cases Z:g.owner b=some (.inr t)
  ·exfalso
   change (if g.owner b=some (.inr t) then _ else _)=_ at J;rw[j8 Z] at J;have hs:U=t\/U=s:=by
    split at J
    ·split at J
     ·injection J with J;injection J with J;exact .inr J.symm
     ·injection J with J;injection J with J;exact .inl J.symm
    ·injection J with J;injection J with J;exact .inr J.symm
   rcases hs with rfl | rfl
   ·exact Y O
   ·exact a0 O
  ·obtain⟨z1,z2,z3⟩:=jR (s:=s) (f:=f) (top:=top) Z;exact⟨z1.symm.trans J,z2,z3⟩
 have:=hr.fresh b hb;exact⟨this.1,by rw[(jR (by rw[this.2];simp)).1];exact this.2⟩
theorem Qe(t J:Tok)(σ:St):((σ.map (bt t)).map (bt J)).map (bt t)=(σ.map (bt J)).map (bt t):=by
 have V:∀c,bt t (bt J (bt t c))=bt t (bt J c):=by
  intro c;cases c with
  | own O x e=>cases x <;> cases h:(O==t) <;> cases U:(O==J) <;> simp[bt,h,U]
  | eptr Z e off=>cases Z with
   | none=>rfl
   | some O=>cases h:(O==t) <;> cases U:(O==J) <;> simp[bt,h,U]
  | inn O e off ei=>cases h:(O==t) <;> cases U:(O==J) <;> simp[bt,h,U]
  | _=>rfl
 have h1:∀x:Sh1,((x.map (bt t)).map (bt J)).map (bt t)=(x.map (bt J)).map (bt t):=by
  intro x;cases x with
  | c x=>simp[Sh1.map,V]
  | agg xs=>simp only[Sh1.map,A7];congr 1;exact B3 fun c _=>V c
 have Y:∀x:Sh,((x.map (bt t)).map (bt J)).map (bt t)=(x.map (bt J)).map (bt t):=by
  intro x;cases x with
  | one x=>simp only[Sh.map,h1]
  | tup xs=>simp only[Sh.map,A7];congr 1;exact B3 fun c _=>h1 c
 simp only[St.map,A7]
 congr 1
 ·exact B3 fun p _=>by simp only[Function.comp,Y]
 ·exact B3 fun p _=>by simp only[Function.comp,Y]
 ·exact B3 fun p _=>by
   simp only[Function.comp,A7]
   congr 2
   exact B3 fun c _=>V c
theorem VX(U:Rel P w g base σ a)(t:Tok)(Z:t.1≠1000001)(nb:Nat):Rel P w { g with ρ:=fun u=>if u=t then nb else g.ρ u } base (σ.map (bt t)) a:=
 U.drop (iJ (fun b o u h1 Y=>⟨Y,h1⟩) (fun b V _ _ _=>⟨rfl,rfl,rfl⟩) (fun V J=>⟨i7 J,rfl,rfl,rfl⟩) rfl (fun _ _=>rfl)) rfl (fun _ _ _ _=>⟨rfl,rfl,rfl⟩) U.fresh (g8 _) (fun _ _=>⟨rfl,rfl,rfl⟩) rfl (fun V J=>⟨i7 (kq Z J),rfl,fun b O _=>⟨O,rfl⟩⟩) (fun _ _ _ O=>⟨O,rfl,rfl⟩)
theorem CW(hr:Rel P w g base σ a){t s J:Tok}(V:t.1≠1000001)(Y:s.1≠1000001){f:List (Nat × Nat)->List (Nat × Nat)}{top:Option (List (Nat × Nat))}(ht:J≠t){O:Bool}{e:TypeId}{row:List S}{rows:List b8}{v:Value}(U:bk P e=some row)(h:dp P w g base J O e row rows v):dp P w (uZ g t s f top) base J O e row rows v:=by
 have:=(xZ (s:=s) (f:=f) (top:=top) (t:=t) hr V Y).1 (.own J O e) (.l rows) v ⟨row,U,h⟩;change VC P w _ base (bif J==t then (bif O then .any else .d (.sl e)) else .own J O e) _ _ at this;rw[show (J==t)=false from by simpa using ht,f5] at this;obtain⟨a0,h1,Z⟩:=this;rw[U] at h1;injection h1 with h1;subst h1
 exact Z
theorem aiQ{t s:Tok}{f:List (Nat × Nat)->List (Nat × Nat)}{top:Option (List (Nat × Nat))}(O:s≠t){π:List (Nat × Nat)}(J:π ≠ []){s':S}{x:D}{v:Value}(h:TR P w (lj base g s) π s' x v):TR P w (lj base (uZ g t s f top) s) π s' x v:=
 TR.mono (fun π=>π) (fun _ _ _=>rfl) h (fun b π n o _ hl Y=>⟨Y,by obtain⟨Z,U,l2,l3,V,l5⟩:=hl;have:=jR (g:=g) (t:=t) (s:=s) (f:=f) (top:=top) (b:=b) (by rw[U];intro e;injection e with e;injection e with e;exact O e);exact⟨Z,this.1.trans U,l2,this.2.1.trans l3,this.2.2.trans V,l5⟩⟩) J
theorem afQ{t s:Tok}{π:List (Nat × Nat)}{e:TypeId}{row:List S}{x:D}{v:Value}(U:bk P e=some row)(h:dp P w g base t true e row x.rows v)(J:bm t=true\/row.all S.flat=true)(hs:∀b,g.owner b=some (.inr t)->b≠g.ρ s) :
  TR P w (lj base (uZ g t s (fun q=>π++q) (some π)) s) π (.sl e) x v:=by
 rcases h with⟨h0,_,A,rfl⟩ | ⟨cap,arr,E,rfl,h2,⟨h3,rfl,h3'⟩,h4,h5,h6,h7,h8,h9,h10,h11⟩
 ·exact .nil _ _ _ _ (by rw[U];rfl) h0
 ·refine .sl _ E x _ cap row arr (fun i j=>arr[i*row.length+j]?.getD undef) U h2 h3 ⟨h4,?_,hs _ h5,?_,?_,?_⟩ h6 h7 (fun i j hi hj=>?_) (fun i j s' hi V=>?_)
  ·show (if g.owner (g.ρ t)=some (.inr t) then _ else _)=_;rw[j8 h5,j8 rfl];rfl
  ·show (if g.owner (g.ρ t)=some (.inr t) then _ else _)=_;rw[j8 h5,j8 rfl];rfl
  ·show (if g.owner (g.ρ t)=some (.inr t)/\g.ρ t=g.ρ t then _ else _)=_;rw[j8 ⟨h5,rfl⟩,h8,h9]
  ·rw[show (uZ g t s (fun q=>π++q) (some π)).prot=g.prot from rfl,h10];rfl
  ·obtain⟨u,Y,_⟩:=h11 i j _ hi (g6 hj);rw[Y];rfl
  ·obtain⟨u,Y,k2⟩:=h11 i j s' hi V;simp only[Y];change TR P w _ _ s' _ u;cases O:bm t with
   | true =>
    refine TR.mono (fun q=>π++q) (fun q x _=>(z7 _ _ _).symm) (k2.tr O) (fun b q n o _ hl ho=>⟨ho,?_⟩) (by simp);obtain⟨l0,Z,l2,l3,l4,l5⟩:=hl;refine⟨l0,?_,hs _ Z,?_,?_,l5⟩
    ·show (if g.owner b=some (.inr t) then _ else _)=_;rw[j8 Z,i7 l2]
    ·show (if g.owner b=some (.inr t) then _ else _)=_;rw[j8 Z,i7 l2,l3]
    ·show (if g.owner b=some (.inr t)/\b=g.ρ t then _ else _)=_;rw[i7 (fun e=>l2 e.2)];exact l4
   | false =>
    rcases J with J | J
    ·rw[O] at J;cases J
    ·exact TR.of_flat (k2.vd O) (i6.1 J s' (w6 V))
theorem nQ{s:Tok}{i:Nat}:∀ {cs:List Ce} {ds:b8} {us:List Value} {j0:Nat} {g:G} {σ:St},Rel P w g base σ a->(∀(k:Nat) c,cs[k]?=some c->∃u,us[k]?=some u/\VC P w g base c (ds k) u)->cs.all (nC P)=true->cj (toks cs)=true->(toks cs).contains s=false->(toks cs = []\/s.1≠1000001) ->
  (∀b t,t≠s->g.owner b=some (.inr t)->b≠g.ρ s)->∃g',Rel P w g' base (ni (toks cs) σ) a/\(g'.ρ=g.ρ/\g'.len=g.len/\g'.wid=g.wid/\g'.ety=g.ety/\g'.θ=g.θ/\g'.prot=g.prot) /\
   ((∀b t,t≠s->g'.owner b=some (.inr t)->b≠g'.ρ s)/\∀b,g.owner b=some (.inr s)->g'.owner b=some (.inr s)) /\
   (∀ {π:List (Nat × Nat)} {s':S} {x:D} {v:Value},π ≠ []->TR P w (lj base g s) π s' x v->TR P w (lj base g' s) π s' x v) /\
   (∀ {t:Tok} {xm:Bool} {e:TypeId} {row:List S} {rows:List b8} {v:Value},(toks cs).contains t=false->bk P e=some row->dp P w g base t xm e row rows v->dp P w g' base t xm e row rows v) /\
   ∀(k:Nat) c s',cs[k]?=some c->c.toS=some s'->∃u,us[k]?=some u/\TR P w (lj base g' s) [(i,j0+k)] s' (mR cs ds k) u
 | [],ds,us,j0,g,σ,hr,hv,hd,hn,hs,O,hρ=>⟨g,hr,⟨rfl,rfl,rfl,rfl,rfl,rfl⟩,⟨hρ,fun _ h=>h⟩,fun _ h=>h,fun _ _ h=>h,fun k c s' h=>by simp at h⟩
 | Z::cs,ds,us,j0,g,σ,hr,hv,hd,hn,hs,O,hρ=>by
  simp only[M6,a9] at hd;obtain⟨u0,a5,a1⟩:=hv 0 Z rfl;have a2:∀k,us[k+1]?=us.tail[k]?:=fun k=>by cases us <;> simp
  have plain:toks (Z::cs)=toks cs->(∀s',Z.toS=some s'->∃u,us[0]?=some u/\∀g':G,TR P w (lj base g' s) [(i,j0)] s' (Z.toD (ds 0)) u)->∃g',Rel P w g' base (ni (toks (Z::cs)) σ) a/\(g'.ρ=g.ρ/\g'.len=g.len/\g'.wid=g.wid/\g'.ety=g.ety/\g'.θ=g.θ/\g'.prot=g.prot) /\
   ((∀b t,t≠s->g'.owner b=some (.inr t)->b≠g'.ρ s)/\∀b,g.owner b=some (.inr s)->g'.owner b=some (.inr s)) /\
   (∀ {π:List (Nat × Nat)} {s':S} {x:D} {v:Value},π ≠ []->TR P w (lj base g s) π s' x v->TR P w (lj base g' s) π s' x v) /\
   (∀ {t:Tok} {xm:Bool} {e:TypeId} {row:List S} {rows:List b8} {v:Value},(toks (Z::cs)).contains t=false->bk P e=some row->dp P w g base t xm e row rows v->dp P w g' base t xm e row rows v) /\
   ∀(k:Nat) c s',(Z::cs)[k]?=some c->c.toS=some s'->∃u,us[k]?=some u/\TR P w (lj base g' s) [(i,j0+k)] s' (mR (Z::cs) ds k) u:=by
   intro ht h0;rw[ht] at hn hs O ⊢;obtain⟨g',k1,k2,k3,k4,k5,k6⟩:=nQ (i:=i) (us:=us.tail) (ds:=ds.tail) (j0:=j0+1) hr (fun k c U=>by obtain⟨u,h1,V⟩:=hv (k+1) c (by simpa using U);exact⟨u,by rw[<- a2];exact h1,by rw[dG];exact V⟩) hd.2 hn hs O hρ;refine⟨g',k1,k2,k3,k4,k5,fun k c s' U Y=>?_⟩;cases k with
   | zero =>simp only[n5,b7] at U;subst U;obtain⟨u,h1,V⟩:=h0 s' Y;exact⟨u,h1,V g'⟩
   | succ k =>obtain⟨u,h1,V⟩:=k6 k c s' (by simpa using U) Y;refine⟨u,by rw[a2];exact h1,?_⟩;rw[mR,aJ,show j0+(k+1)=j0+1+k from by omega];exact V
  cases Z with
  | d s0 =>
   refine plain rfl fun s' a0=>⟨u0,a5,fun g'=>?_⟩
   simp only[Ce.toS,b7] at a0;subst a0;exact TR.of_flat (prot:=g.prot) a1 (by simpa [nC] using hd.1)
  | kb b =>
   refine plain rfl fun s' a0=>⟨u0,a5,fun g'=>?_⟩
   simp only[Ce.toS,b7] at a0;subst a0;have a1:u0=.bool b:=a1;subst a1;exact TR.bool _ (.b b)
  | own t xm e =>
   cases xm with
   | false=>simp[nC] at hd
   | true =>
    simp only[toks,cj,a9,m6,J1,H6] at hn hs;have a3:s≠t:=by simpa using hs.1
    obtain⟨row,a7,b0⟩:=a1;have b3:bm t=true\/row.all S.flat=true:=by have:=hd.1;simp only[nC,CQ,a7,y9,a9] at this;exact this.2
    have a6:t.1≠1000001:=by have:=hd.1;simp only[nC,a9,D1,ne_eq] at this;exact this.1
    have O:s.1≠1000001:=by
     rcases O with h | h
     ·simp[toks] at h
     ·exact h
    have b4:=(xZ (t:=t) (s:=s) (f:=fun q => [(i,j0)]++q) (top:=some [(i,j0)]) hr a6 O).2;obtain⟨g',k1,k2,k3,k4,k5,k6⟩:=nQ (i:=i) (us:=us.tail) (ds:=ds.tail) (j0:=j0+1) b4 (fun k c U=>by
     obtain⟨u,h1,V⟩:=hv (k+1) c (by simpa using U);refine⟨u,by rw[<- a2];exact h1,?_⟩;rw[dG];have b5:=i6.1 hd.2 c (w6 U);cases c with
     | d s1=>exact V
     | kb b=>exact V
     | own t1 x1 e1 =>obtain⟨b2,q1,q2⟩:=V;refine⟨b2,q1,CW hr a6 O (fun e=>?_) q1 q2⟩;subst e;have:=BL (w6 U);have h3:=u7.2 this;rw[hn.1] at h3;cases h3
     | _=>simp[nC] at b5) hd.2 hn.2 hs.2 (.inr O) (fun b t' a4 J=>by
      refine hρ b t' a4 ?_;change (if g.owner b=some (.inr t) then _ else _)=_ at J
      split at J
      ·exfalso
       split at J
       ·simp only[w7,if_true] at J;injection J with J;injection J with J;exact a4 J.symm
       ·injection J with J;injection J with J;exact a4 J.symm
      ·exact J)
    have b1:=afQ (s:=s) (π:= [(i,j0)]) a7 b0 b3 (fun b J=>hρ b t (Ne.symm a3) J);refine⟨g',k1,k2,⟨k3.1,fun b hb=>k3.2 b (by show (if g.owner b=some (.inr t) then _ else _)=_;rw[i7 (by rw[hb];intro e;injection e with e;injection e with e;exact a3 e)];exact hb)⟩,fun a8 h=>k4 a8 (aiQ a3 a8 h),fun {t2 xm e2 row2 rows2 v2} ht2 hr2 h=>?_,fun k c s' U Y=>?_⟩
    ·simp only[toks,J1,H6] at ht2;exact k5 ht2.2 hr2 (CW hr a6 O (by simpa using ht2.1) hr2 h)
    ·cases k with
     | zero =>simp only[n5,b7] at U;subst U;simp only[Ce.toS,b7] at Y;subst Y;exact⟨u0,a5,k4 (by simp) b1⟩
     | succ k =>obtain⟨u,h1,V⟩:=k6 k c s' (by simpa using U) Y;refine⟨u,by rw[a2];exact h1,?_⟩;rw[mR,aJ,show j0+(k+1)=j0+1+k from by omega];exact V
  | _=>simp[nC] at hd
theorem VP{x:T}{O:Option Tok}{e:TypeId}{rows:List b8}{v:Value}(h:x.slice=some (O,e,rows))(hx:VT P w g base x v) :
  ∃A c row,v=.slice A rows.length c/\bk P e=some row/\∀(i j:Nat) s,i<rows.length->row[j]?=some s->∃b o z,A=some ⟨b,o,none⟩/\w.cell? ⟨b,o+(i*row.length+j),none⟩=some z/\(zz O=false->VD P w g.prot s (rows.getD i [] j) z)/\(∀t,O=some t->ci P base w g t true i j s (rows.getD i [] j) z):=by
 obtain⟨A,c,rfl,h1,h2,row,Z,hv⟩:=KO h hx;refine⟨A,c,row,rfl,Z,fun i j s hi hs=>?_⟩;cases O with
 | none =>obtain⟨b,o,z,J,U,_,V⟩:=hv i j s hi hs;exact⟨b,o,z,J,U,fun _=>V,fun t e=>by cases e⟩
 | some t =>
  rcases hv with⟨h0,_⟩ | ⟨cap,arr,E,J,U,k3,V,k5,k6,k7,k8,k9,k10,k11⟩
  ·rw[h0] at hi;simp at hi
  ·injection J with J _ _
   obtain⟨z,j1,j2⟩:=k11 i j s hi hs;refine⟨_,_,z,J,?_,fun Y=>j2.vd Y,fun t e=>by injection e with e;subst e;exact j2⟩;simp only[World.cell?,k6,i9];exact j1
theorem uO{O e n:Nat}{A U:Option Addr}{J cap c:Nat}(Z:P.underlying O=some (.slice e))(hn:eB P e=some n)(V:J<=cap)(ty:TypeId) :
  (Builtin.append_ #[O,O] ty #[.slice A J cap,.slice U 0 c]).run P w=.ok (.slice A J cap) w:=by
 have Y:(Builtin.firstCells n 0 (.slice U 0 c)).run P w=.ok #[] w:=by
  cases U with
  | none=>simp[Builtin.firstCells]
  | some x=>simp[Builtin.firstCells,loadCells,loadCellsFrom]
 unfold Builtin.append_;simp only[F3,n5,I5,j7,run_underlying Z,g7,eP hn,m8,Builtin.lenOf,D4];simp only[u4,if_false,j7,m8,g7,Builtin.lenOf,D4,j8 V,w5,if_true,Y];cases A with
 | none=>simp
 | some x=>simp[storeCells]
theorem RC(hr:Rel P w g base σ a){tt e:TypeId}{row:List S}(ht:kT P tt=some e)(d4:bk P e=some row)(hz:iT P e row=true)(g1:Cm P e=true){t:Tok}{c0:Bool}{rows J:List b8}{u v:Value}
  (Y:dp P w g base t c0 e row rows u) (hy:∃A c,v=.slice A J.length c/\∀(i j:Nat) s,i<J.length->row[j]?=some s->∃b o z,A=some ⟨b,o,none⟩/\w.cell? ⟨b,o+(i*row.length+j),none⟩=some z/\ci P base w g t c0 (rows.length+i) j s (J.getD i [] j) z)
  (c5:(rows++J).length<=4294967296) (ty:TypeId) (c4:t.1≠1000001) :
  ∃v' w' g',(Builtin.append_ #[tt,tt] ty #[u,v]).run P w=.ok v' w'/\Rel P w' g' base (σ.map (bt t)) a/\dp P w' g' base t c0 e row (rows++J) v'/\Below base w w':=by
 generalize i0:c0=b at *;obtain⟨A,c,rfl,hy⟩:=hy;have d2:=gH d4;have c6:=lI d4;have hu:=gV ht;rw[i5] at c5;by_cases hm:J.length=0
 ·have f0:J = []:=t6 hm;subst f0;have hk:iu P base g g w w (bt t):=iJ (fun b o u h1 h2=>⟨h2,h1⟩) (fun b t' _ _ _=>⟨rfl,rfl,rfl⟩) (fun _ _=>⟨rfl,rfl,rfl,rfl⟩) rfl (fun _ _=>rfl);have a8:Rel P w g base (σ.map (bt t)) a:=hr.drop hk rfl (fun _ _ _ _=>⟨rfl,rfl,rfl⟩) hr.fresh (g8 _) (fun _ _=>⟨rfl,rfl,rfl⟩) rfl (fun _ _=>⟨rfl,rfl,fun _ U _=>⟨U,rfl⟩⟩) (fun _ _ _ U=>⟨U,rfl,rfl⟩);rw[B9];rcases Y with⟨h0,h1,A0,rfl⟩ | ⟨cap,V,E,rfl,h2,rest⟩
  ·exact⟨_,w,g,uO hu d2 (g8 _) ty,a8,.inl ⟨h0,h1,A0,rfl⟩,Below.refl _ _⟩
  ·exact⟨_,w,g,uO hu d2 h2 ty,a8,.inr ⟨cap,V,E,rfl,h2,rest⟩,Below.refl _ _⟩
 ·obtain⟨ti,v0,hi,e0,g3⟩:=oD hz;obtain⟨i1,a5,hb⟩:=Lm g1;rw[hi] at a5;injection a5 with a5;subst a5;have b4:ti.size=row.length:=by have:=d2;unfold eB at this;rw[hi] at this;injection this
  obtain⟨d5,_⟩:=Dv g3;have d5:v0.cells.size=row.length:=by simpa using d5
  obtain⟨b0,o0,_,hA,_⟩:=hy 0 0 _ (by omega) (g6 c6);subst hA;have e6:∀(i j:Nat) s,i<J.length->row[j]?=some s->∃z,w.cell? ⟨b0,o0+(i*row.length+j),none⟩=some z/\ci P base w g t b (rows.length+i) j s (J.getD i [] j) z:=fun i j s h1 h2=>by obtain⟨b,o,z,k1,k2,k3⟩:=hy i j s h1 h2;injection k1 with k1;injection k1 with e1 e2 _;subst e1;subst e2;exact⟨z,k2,k3⟩
  let O:List Value:=List.ofFn (n:=J.length*row.length) fun j=>(w.cell? ⟨b0,o0+j.1,none⟩).getD undef
  have a7:O.length=J.length*row.length:=by simp[O]
  have c9:∀j,j<J.length*row.length->∃z,O[j]?=some z/\w.cell? ⟨b0,o0+j,none⟩=some z/\z.oneCell'=true:=fun j hj=>by
   have f2:j % row.length<row.length:=Nat.mod_lt _ c6;obtain⟨z,k1,k2⟩:=e6 (j / row.length) (j % row.length) _ ((M0 c6).2 hj) (g6 f2);have e:j / row.length*row.length+j % row.length=j:=by rw[L4];exact Nat.div_add_mod j row.length
   rw[e] at k1;refine⟨z,?_,k1,nJ k2.flat⟩;rw[g6 (by rw[a7];exact hj)];simp[O,k1]
  have b1:∀j z,O[j]?=some z->w.cell? ((⟨b0,o0,none⟩:Addr).add j)=some z:=fun j z hj=>by
   have d1:=(g5.1 hj).1;obtain⟨z',h1,h2,_⟩:=c9 j (by rw[<- a7];exact d1);rw[hj] at h1;injection h1 with h1;subst h1
   rw[pz];exact h2
  have f1:∀z∈O,z.oneCell'=true:=fun z hz=>by obtain⟨j,hj⟩:=E7 hz;have d1:=(g5.1 hj).1;obtain⟨z',h1,_,h3⟩:=c9 j (by rw[<- a7];exact d1);rw[hj] at h1;injection h1 with h1;subst h1;exact h3
  have e7:∀(i j:Nat) s,i<J.length->row[j]?=some s->∃z,O[i*row.length+j]?=some z/\ci P base w g t b (rows.length+i) j s (J.getD i [] j) z:=fun i j s h1 h2=>by
   obtain⟨z,k1,k2⟩:=e6 i j s h1 h2;have hj:=(g5.1 h2).1;have a6:i*row.length+j<J.length*row.length:=by have:(i+1)*row.length<=J.length*row.length:=v7 _ h1;rw[C8] at this;omega
   obtain⟨z',q1,q2,_⟩:=c9 _ a6;rw[k1] at q2;injection q2 with q2;subst q2;exact⟨z,q1,k2⟩
  have c7:∀i,i<rows.length+J.length->(rows++J).getD i []=if i<rows.length then rows.getD i [] else J.getD (i - rows.length) []:=fun i hi=>by
   rw[f9,w9]
   split
   ·rw[f9]
   ·rw[f9]
  have b5:(rows.length+J.length)*ti.bytes<=140737488355328:=by have:=Nat.mul_le_mul c5 hb;omega
  -- a new block
  have grow:∀(a3:List Value) (old:Nat),a3.length=rows.length*row.length->(∀(i j:Nat) s,i<rows.length->row[j]?=some s->∃z,a3[i*row.length+j]?=some z/\ci P base w g t b i j s (rows.getD i [] j) z) ->
    (Builtin.append_ #[tt,tt] ty #[u,.slice (some ⟨b0,o0,none⟩) J.length c]).run P w=.ok (.slice (some ⟨w.heap.size,0,none⟩) (rows.length+J.length) (grownCap w (rows.length+J.length) old e))
     (w.drew.alloc (.cells (a3.toArray++O.toArray++Builtin.zeroCells v0.cells (grownCap w (rows.length+J.length) old e - (rows.length+J.length))) e)) ->
    ∃v' w' g',(Builtin.append_ #[tt,tt] ty #[u,.slice (some ⟨b0,o0,none⟩) J.length c]).run P w=.ok v' w'/\Rel P w' g' base (σ.map (bt t)) a/\dp P w' g' base t b e row (rows++J) v'/\Below base w w':=by
   intro a3 old b2 f3 b3;have g2:=grownCap_ge w (rows.length+J.length) old e;have e9:=grownCap_le_maxLen w (rows.length+J.length) old e (by unfold maxLen;omega);unfold maxLen at e9
   let V:Array Value:=a3.toArray++O.toArray++Builtin.zeroCells v0.cells (grownCap w (rows.length+J.length) old e - (rows.length+J.length))
   let g':G:={ prot:=fun x=>if x=w.heap.size then (if b then 0 else (rows.length+J.length)*row.length) else g.prot x,owner:=fun x=>if x=w.heap.size then some (.inr t) else g.owner x,θ:=g.θ, ρ:=fun u=>if u=t then w.heap.size else g.ρ u,len:=fun u=>if u=t then rows.length+J.length else g.len u,wid:=fun u=>if u=t then row.length else g.wid u,ety:=fun u=>if u=t then e else g.ety u,path:=g.path,need:=g.need,old:=g.old }
   have a0:∀x,x<w.heap.size->(w.drew.alloc (.cells V e)).heap[x]?=w.heap[x]?:=fun x Y=>Below.heap_alloc w.drew _ x Y
   have c2:(w.drew.alloc (.cells V e)).heap.size=w.heap.size+1:=by simp
   have a2:∀x o z,o<g.prot x->w.cell? ⟨x,o,none⟩=some z->(w.drew.alloc (.cells V e)).cell? ⟨x,o,none⟩=some z/\o<g'.prot x:=fun x o z h1 h2=>by have a6:=dn h2;exact⟨(bd (a0 x a6) o).trans h2,by show o<(if x=w.heap.size then _ else _);rw[i7 (by omega)];exact h1⟩
   have c3:∀ {i j:Nat} {s:S} {x:D} {z:Value},ci P base w g t b i j s x z->ci P base (w.drew.alloc (.cells V e)) g' t b i j s x z:=fun h =>h.mono rfl a2 (fun _ x o h0 U a4 hb=>by have a6:=aT hb;exact⟨(a0 x a6).trans hb,h0,by show (if x=w.heap.size then _ else _)=_;rw[i7 (by omega)];exact U,by show x≠(if t=t then w.heap.size else _);rw[j8 rfl];omega,rfl,rfl,fun e=>by show (if x=w.heap.size then _ else _)=_;rw[i7 (by omega)];exact e⟩)
   have hk:iu P base g g' w (w.drew.alloc (.cells V e)) (bt t):=by
    refine iJ a2 (fun x t' _ _ Y=>⟨a0 x Y,?_,?_⟩) (fun t' Z=>⟨i7 Z,i7 Z,i7 Z,i7 Z⟩) rfl (fun x Y=>a0 x (hr.low.2.1 x Y).2.2.2)
    ·show (if x=w.heap.size then _ else _)=_;rw[i7 (by omega)]
    ·show (if x=w.heap.size then _ else _)=_;rw[i7 (by omega)]
   have a8:Rel P (w.drew.alloc (.cells V e)) g' base (σ.map (bt t)) a:=by
    refine hr.drop hk rfl (fun x id _ Y=>⟨a0 x Y,?_,?_⟩) (fun x Y=>?_) (by rw[c2];omega) (fun x Y=>by
     have:=(hr.low.2.1 x Y).2.2.2;exact⟨by show (if x=w.heap.size then _ else _)=_;rw[i7 (by omega)],by show (if x=w.heap.size then _ else _)=_;rw[i7 (by omega)],a0 x this⟩) rfl (fun t' Z=>⟨i7 (kq c4 Z),i7 (kq c4 Z),fun x U Y=>⟨by show (if x=w.heap.size then _ else _)=_;rw[i7 (by omega)];exact U,a0 x Y⟩⟩) (fun x t' Z U=>by
     change (if x=w.heap.size then _ else _)=_ at U
     split at U
     ·injection U with U;injection U with U;exact absurd U.symm (kq c4 Z)
     ·exact⟨U,rfl,rfl⟩)
    ·show (if x=w.heap.size then _ else _)=_;rw[i7 (by omega)]
    ·show (if x=w.heap.size then _ else _)=_;rw[i7 (by omega)]
    ·rw[c2] at Y;have:=hr.fresh x (by omega);exact⟨by show (if x=w.heap.size then _ else _)=_;rw[i7 (by omega)];exact this.1,by show (if x=w.heap.size then _ else _)=_;rw[i7 (by omega)];exact this.2⟩
   refine⟨_,_,g',b3,a8,.inr ⟨_,V,e,?_,by rw[i5];exact g2,⟨e9,rfl,(j8 rfl:g'.ety t=e).symm⟩,?_,?_,?_,?_,?_,(j8 rfl:g'.wid t=row.length).symm,?_,?_⟩,?_⟩
   ·rw[i5,show g'.ρ t=w.heap.size from j8 rfl]
   ·rw[show g'.ρ t=w.heap.size from j8 rfl];exact hr.base_le
   ·rw[show g'.ρ t=w.heap.size from j8 rfl];exact j8 rfl
   ·rw[show g'.ρ t=w.heap.size from j8 rfl];exact fw w.drew _
   ·show (a3.toArray++O.toArray++Builtin.zeroCells v0.cells _).size=_;simp only[A9,z6,size_zeroCells,b2,a7,d5,<- E5]
    congr 1;omega
   ·rw[i5];exact (j8 rfl:g'.len t=_).symm
   ·rw[show g'.ρ t=w.heap.size from j8 rfl,show g'.len t=rows.length+J.length from j8 rfl,show g'.wid t=row.length from j8 rfl];exact j8 rfl
   ·intro i j s hi hs;rw[i5] at hi;have hj:=(g5.1 hs).1;rw[c7 i hi];by_cases h1:i<rows.length
    ·rw[j8 h1];obtain⟨z,q1,q2⟩:=f3 i j s h1 hs;refine⟨z,?_,c3 q2⟩;have a6:=(g5.1 q1).1;show (a3.toArray++O.toArray++_)[i*row.length+j]?=_;rw[J2,r9 (by simpa using a6)];simpa using q1
    ·rw[i7 h1];obtain⟨z,q1,q2⟩:=e7 (i - rows.length) j s (by omega) hs;refine⟨z,?_,by have:=c3 q2;rwa [show rows.length+(i - rows.length)=i from by omega] at this⟩;have a6:=(g5.1 q1).1;have e1:i*row.length+j=rows.length*row.length+((i - rows.length)*row.length+j):=by rw[<- p8,<- E5];congr 2;omega
     show (a3.toArray++O.toArray++_)[i*row.length+j]?=_;rw[r9 (by simp[b2];omega),A4 (by simp[b2];omega)];simp only[z6,b2,e1,I6];simpa using q1
   ·exact⟨rfl,rfl,rfl,by rw[c2];omega,fun x Y=>a0 x (y8 Y hr.base_le)⟩
  rcases Y with⟨h0,h1,A0,rfl⟩ | ⟨cap,V,E,rfl,h2,⟨h3,rfl,h3'⟩,h4,h5,h6,h7,h8,h9,h10,h11⟩
  ·subst h0;simp only[F0,i9] at grow c5 b5 ⊢;refine grow [] 0 (by simp) (fun i j s hi=>by simp at hi) ?_;cases A0 with
   | none =>have:=run_append_nil (P:=P) w tt ty e ti v0 hu hi e0 ⟨b0,o0,none⟩ J.length c O (by rw[a7,b4]) b1 (by omega) (by omega) (by omega);simpa using this
   | some ad =>have:=run_append_grow (P:=P) w tt ty e ti v0 hu hi e0 ad 0 0 [] (by simp) (fun j v h=>by simp at h) ⟨b0,o0,none⟩ J.length c O (by rw[a7,b4]) b1 (by omega) (by omega) (by simpa using growslice_fits (by omega) b5);simpa using this
  ·by_cases b6:rows.length+J.length<=cap
   ·have c1:rows.length*row.length+O.length<=V.size:=by rw[a7,h7,<- E5];exact v7 _ b6
    have b3:=run_append_room (P:=P) w tt ty E ti hu hi (g.ρ t) rows.length cap V h6 ⟨b0,o0,none⟩ J.length c O (by rw[a7,b4]) b1 f1 b6 (by rw[b4];exact c1);rw[b4] at b3;change _=Result.ok _ (w.setRow (g.ρ t) (gZ V (rows.length*row.length) O)) at b3
    let g':G:={ g with prot:=fun x=>if x=g.ρ t then (if b then 0 else (rows.length+J.length)*row.length) else g.prot x,len:=fun u=>if u=t then rows.length+J.length else g.len u }
    have a1:∀x,x≠g.ρ t->(w.setRow (g.ρ t) (gZ V (rows.length*row.length) O)).heap[x]?=w.heap[x]?:=fun x Y=>setRow_other w (g.ρ t) x _ Y
    have c8:(w.setRow (g.ρ t) (gZ V (rows.length*row.length) O)).heap[g.ρ t]?=some (.cells (gZ V (rows.length*row.length) O) E (0,0)):=setRow_heap w _ V _ E _ h6;have d3:(w.setRow (g.ρ t) (gZ V (rows.length*row.length) O)).heap.size=w.heap.size:=by simp[World.setRow]
    have a2:∀x o z,o<g.prot x->w.cell? ⟨x,o,none⟩=some z->(w.setRow (g.ρ t) (gZ V (rows.length*row.length) O)).cell? ⟨x,o,none⟩=some z/\o<g'.prot x:=fun x o z q1 q2=>by
     by_cases Y:x=g.ρ t
     ·subst Y;rw[h10] at q1;cases b with
      | true=>simp at q1
      | false =>
       simp only[u4,if_false] at q1;rw[<- h8,<- h9] at q1;refine⟨?_,?_⟩
       ·simp only[World.cell?,c8,K9,u4,if_false];rw[CI _ _ _ c1,i7 (by omega)];simp only[World.cell?,h6,K9,u4,if_false] at q2;exact q2
       ·show o<(if g.ρ t=g.ρ t then _ else _);rw[j8 rfl];simp only[u4,if_false,E5];omega
     ·exact⟨(bd (a1 x Y) o).trans q2,by show o<(if x=g.ρ t then _ else _);rw[i7 Y];exact q1⟩
    have c3:∀ {i j:Nat} {s:S} {x:D} {z:Value},ci P base w g t b i j s x z->ci P base (w.setRow (g.ρ t) (gZ V (rows.length*row.length) O)) g' t b i j s x z:=fun h =>h.mono rfl a2 (fun _ x o h0 U a4 hb=>⟨(a1 x a4).trans hb,h0,U,a4,rfl,rfl,fun e=>by show (if x=g.ρ t then _ else _)=_;rw[i7 a4];exact e⟩)
    have hk:iu P base g g' w (w.setRow (g.ρ t) (gZ V (rows.length*row.length) O)) (bt t):=by
     refine iJ a2 (fun x t' Z U Y=>?_) (fun t' Z=>⟨rfl,i7 Z,rfl,rfl⟩) rfl (fun x Y=>a1 x (hr.oldNe Y h5));have a4:x≠g.ρ t:=by intro e;rw[e,h5] at U;injection U with U;injection U with U;exact Z U.symm
     exact⟨a1 x a4,rfl,i7 a4⟩
    have a8:Rel P (w.setRow (g.ρ t) (gZ V (rows.length*row.length) O)) g' base (σ.map (bt t)) a:=by
     refine hr.drop hk rfl (fun x id U Y=>?_) (fun x Y=>?_) (by rw[d3];exact g8 _) (fun x Y=>⟨rfl,i7 (hr.oldNe Y h5),a1 x (hr.oldNe Y h5)⟩) rfl (fun t' Z=>⟨rfl,i7 (kq c4 Z),fun x U Y=>⟨U,a1 x (by intro e;rw[e,h5] at U;injection U with U;injection U with U;exact kq c4 Z U.symm)⟩⟩) (fun _ _ _ U=>⟨U,rfl,rfl⟩)
     ·have a4:x≠g.ρ t:=by intro e;rw[e,h5] at U;injection U with U;cases U
      exact⟨a1 x a4,rfl,i7 a4⟩
     ·rw[d3] at Y;have a6:=aT h6;have:=hr.fresh x Y;exact⟨by show (if x=g.ρ t then _ else _)=_;rw[i7 (by omega)];exact this.1,this.2⟩
    refine⟨_,_,g',b3,a8,.inr ⟨cap,_,E,by rw[i5],by rw[i5];exact b6,⟨h3,rfl,h3'⟩,h4,h5,c8,by rw[yl _ _ _ c1];exact h7,by rw[i5];exact (j8 rfl:g'.len t=_).symm,h9,?_,?_⟩,?_⟩
    ·rw[show g'.len t=rows.length+J.length from j8 rfl,show g'.wid t=row.length from h9.symm];exact j8 rfl
    ·intro i j s a5 hs;rw[i5] at a5;have hj:=(g5.1 hs).1;rw[c7 i a5,CI _ _ _ c1];by_cases q:i<rows.length
     ·rw[j8 q];obtain⟨z,q1,q2⟩:=h11 i j s q hs;have:(i+1)*row.length<=rows.length*row.length:=v7 _ q;rw[C8] at this;exact⟨z,by rw[i7 (by omega)];exact q1,c3 q2⟩
     ·rw[i7 q];obtain⟨z,q1,q2⟩:=e7 (i - rows.length) j s (by omega) hs;have e1:i*row.length+j=rows.length*row.length+((i - rows.length)*row.length+j):=by rw[<- p8,<- E5];congr 2;omega
      have a6:=(g5.1 q1).1;refine⟨z,?_,by have:=c3 q2;rwa [show rows.length+(i - rows.length)=i from by omega] at this⟩;rw[j8 (by omega),e1,I6];exact q1
    ·exact⟨rfl,rfl,rfl,by rw[d3];exact g8 _,fun x Y=>a1 x (by omega)⟩
   ·have b2:(V.toList.take (rows.length*row.length)).length=rows.length*row.length:=by
     have e1:V.toList.length=cap*row.length:=by simpa using h7
     rw[s9,e1];exact Nat.min_eq_left (v7 _ h2)
    refine grow (V.toList.take (rows.length*row.length)) cap b2 (fun i j s a5 hs=>?_) ?_
    ·obtain⟨z,q1,q2⟩:=h11 i j s a5 hs;have hj:=(g5.1 hs).1;have:(i+1)*row.length<=rows.length*row.length:=v7 _ a5;rw[C8] at this;exact⟨z,by rw[s7,j8 (by omega)];simpa using q1,q2⟩
    ·exact run_append_grow (P:=P) w tt ty E ti v0 hu hi e0 ⟨g.ρ t,0,none⟩ rows.length cap (V.toList.take (rows.length*row.length)) (by rw[b2,b4]) (fun j z hj=>by
      rw[s7] at hj
      split at hj
      ·rw[pz];simp only[World.cell?,h6,i9];simpa using hj
      ·cases hj) ⟨b0,o0,none⟩ J.length c O (by rw[a7,b4]) b1 (by omega) (by omega) (growslice_fits (by omega) b5)
theorem WW(hr:Rel P w g base σ a){o:Oper}{c7:St}{d:Nat}{tt:TypeId}{x y:Operand}(ho:o.op=.call { callee:=.builtin .append,args:= #[x,y],argTypes:= #[tt,tt] })(b1:o.dst=some d)(hd:∀d,o.dst=some d->d<a.tmps.size)
  (h:KF P σ d tt x y=some (c7,true)):TS P base c7 o a w:=by
 unfold KF at h
 split at h
 ·rename_i t b e tk e' a2 hsh hy;cases hc:(e==e'&&kT P tt==some e&&Tf P e&&(bif bm t&&b then zz tk&&tk != some t else !zz tk)&&t.1 != 1000001&&tk.all (fun Y=>Y.1 != 1000001)) with
  | false=>rw[hc] at h;cases h
  | true =>
   rw[hc,f8] at h;simp only[b7,i8,a9,f7] at h;obtain⟨rfl,b2,c5⟩:=h;simp only[a9,p6] at hc;obtain⟨⟨⟨⟨⟨rfl,ht⟩,hz⟩,a0⟩,a1⟩,d1⟩:=hc;have a1:t.1≠1000001:=by simpa using a1
   unfold Tf at hz;cases Z:bk P e with
   | none=>rw[Z] at hz;cases hz
   | some row =>
    rw[Z] at hz;simp only at hz;have b3:=cZ hr x;have b3:VC P w g base (.own t b e) ((opd σ x).p 0) (a.eval x):=by generalize opd σ x=q at *;obtain⟨sh,p⟩:=q;simp only at hsh;subst hsh;exact b3
    obtain⟨d2,V,b5⟩:=b3;rw[Z] at V;injection V with V;subst V;obtain⟨A,c,d2,c3,V,c6⟩:=VP hy (cZ hr y);rw[Z] at V;injection V with V;subst V;cases a4:(bm t&&b) with
    | false =>rw[a4,f5] at a0;rw[f5];obtain⟨v',w',g',k1,k2,k3,k4⟩:=RC hr ht Z hz c5 b5 ⟨A,c,c3,fun i j s hi hs=>by obtain⟨b0,o0,z,q1,q2,q3,_⟩:=c6 i j s hi hs;exact⟨b0,o0,z,q1,q2,.of_vd (q3 (by simpa using a0)) (.inl a4)⟩⟩ b2 o.type a1;refine⟨v',w',g',.inl ?_,k2.put hd (t:=.c (.own t b e) (.l _)) ⟨row,Z,k3⟩ |> fun h=>by rw[b1] at h ⊢;exact h,k4⟩;simp only[execOp,ho,resolve,invoke,builtin,j7,m8,g7,List.map_toArray,u5,H5,k1]
    | true =>
     rw[a4,f8] at a0;rw[f8];simp only[a9] at a0 a4;obtain⟨d4,rfl⟩:=a4;cases tk with
     | none=>simp[zz] at a0
     | some Y =>
      have a7:t≠Y:=by have:=a0.2;simp at this;exact fun e=>this e.symm
      have c8:bm Y=true:=a0.1
      let n0:=((opd σ x).p 0).rows.length
      let fm:List (Nat × Nat)->List (Nat × Nat):=fun π=>match π with
       | [] => []
       | (i,j)::r=>(n0+i,j)::r
      have a8:∀ {O:G} {a3:St},Rel P w O base a3 a->dp P w O base t true e row ((opd σ x).p 0).rows (a.eval x)->(∀J,O.owner J=some (.inr Y)->w.heap.size<=J\/J≠O.ρ t)->(∀J,O.owner J=g.owner J/\O.path J=g.path J/\O.need J=g.need J/\O.prot J=g.prot J)->O.ρ Y=g.ρ Y ->
        ∃v' w' g',(Builtin.append_ #[tt,tt] o.type #[a.eval x,a.eval y]).run P w=.ok v' w'/\Rel P w' g' base ((a3.map (bt Y)).map (bt t)) a/\dp P w' g' base t true e row (((opd σ x).p 0).rows++a2) v'/\Below base w w':=by
       intro O a3 a5 a6 c9 c1 d3;have b4:Y.1≠1000001:=by simpa using d1
       obtain⟨e7,d5⟩:=xZ (t:=Y) (s:=t) (f:=fm) (top:=none) a5 b4 a1;have c2:=CW (s:=t) (f:=fm) (top:=none) a5 b4 a1 a7 Z a6;refine RC d5 ht Z hz c5 c2 ⟨A,c,c3,fun i j s hi hs=>?_⟩ b2 o.type a1;obtain⟨b0,o0,z,q1,q2,_,q3⟩:=c6 i j s hi hs;refine⟨b0,o0,z,q1,q2,.of_tr ?_ d4⟩;have:=TR.mono fm (fun π x c4=>by cases π with | nil=>exact absurd rfl c4 | cons p r=>rfl) ((q3 Y rfl).tr c8) (w':=w) (lab':=lj base (uZ O Y t fm none) t) (fun J π n e0 c4 hl U=>⟨U,by
        obtain⟨l0,l1,l2,l3,l4,l5⟩:=hl;obtain⟨m1,m2,m3,m4⟩:=c1 J;have b6:O.owner J=some (.inr Y):=m1.trans l1;have c0:J≠O.ρ Y:=by rw[d3];exact l2
        refine⟨l0,?_,(c9 J b6).resolve_left (by have:=aT U;omega),?_,?_,m4.trans l5⟩
        ·show (if O.owner J=some (.inr Y) then _ else _)=_;rw[j8 b6,i7 c0]
        ·show (if O.owner J=some (.inr Y) then _ else _)=_;rw[j8 b6,i7 c0,m2,l3]
        ·show (if O.owner J=some (.inr Y)/\J=O.ρ Y then _ else _)=_;rw[i7 (fun e=>c0 e.2),m3];exact l4⟩) (by simp)
       exact this
      have fin:∀ {v':Value} {w':World} {g':G},(Builtin.append_ #[tt,tt] o.type #[a.eval x,a.eval y]).run P w=.ok v' w'->Rel P w' g' base ((σ.map (bt Y)).map (bt t)) a->dp P w' g' base t true e row (((opd σ x).p 0).rows++a2) v'->Below base w w'->TS P base (((ni (some Y).toList σ).map (bt t)).put (some d) (.c (.own t true e) (.l (((opd σ x).p 0).rows++a2)))) o a w:=by intro v' w' g' k1 k2 k3 k4;refine⟨v',w',g',.inl ?_,k2.put hd (t:=.c (.own t true e) (.l _)) ⟨row,Z,k3⟩ |> fun h=>by rw[b1] at h ⊢;exact h,k4⟩;simp only[execOp,ho,resolve,invoke,builtin,j7,m8,g7,List.map_toArray,u5,H5,k1]
      rcases b5 with hown' | hown'
      ·obtain⟨v',w',g',k1,k2,k3,k4⟩:=a8 (VX hr t a1 w.heap.size) (.inl ⟨hown'.1,hown'.2.1,hown'.2.2⟩) (fun J _=>by show _\/J≠(if t=t then w.heap.size else _);rw[j8 rfl];omega) (fun _=>⟨rfl,rfl,rfl,rfl⟩) (i7 (Ne.symm a7));refine fin k1 ?_ k3 k4;have e1:((σ.map (bt t)).map (bt Y)).map (bt t)=(σ.map (bt Y)).map (bt t):=Qe t Y σ;rw[e1] at k2;exact k2
      ·obtain⟨v',w',g',k1,k2,k3,k4⟩:=a8 hr (.inr hown') (fun J U=>.inr fun e=>by obtain⟨cap,e6,E,h1,h2,h3,h4,h5,rest⟩:=hown';rw[e,h5] at U;injection U with U;injection U with U;exact a7 U) (fun _=>⟨rfl,rfl,rfl,rfl⟩) rfl;exact fin k1 k2 k3 k4
 ·cases h
theorem sO(s:Tok)(rows:List b8):∀(cs:List Ce) (ds:b8) (j:Nat) c,cs[j]?=some c->qb s rows cs ds j=aka s rows c (ds j)
 | [],ds,j,c,h=>by simp at h
 | c0::cs,ds,0,c,h=>by simp only[n5,b7] at h;subst h;rfl
 | c0::cs,ds,j+1,c,h=>by rw[qb,aJ,sO s rows cs ds.tail j c (by simpa using h),dG]
theorem tl(s:Tok)(rows:List b8):∀(cs:List Ce) (ds:b8),(qb s rows cs ds).length=cs.length
 | [],_=>rfl
 | c::cs,ds=>by simp[qb,tl s rows cs ds.tail]
theorem RM{V O:Type}{f:V->O}{l:List V}{j:Nat}{c:O}(h:(l.map f)[j]?=some c):∃J,l[j]?=some J/\f J=c:=by
 rw[u6] at h;cases U:l[j]? with
 | none=>rw[U] at h;cases h
 | some J=>rw[U] at h;injection h with h;exact⟨J,rfl,h⟩
theorem Bd(F:List Ce->List Ce)(G:List Ce->b8->b8):∀(h:sH) (i:Nat),bH i (h.map fun p=>(p.1,F p.2.1,G p.2.1 p.2.2))=(bH i h).map fun q=>(F q.1,G q.1 q.2)
 | [],i=>by simp[bH]
 | (j,v)::e,i=>by simp only[u5,bH];rw[Bd F G e i];cases i==j <;> rfl
theorem DF{gs:G}{a3:St}(hr:Rel P w gs base a3 a){o:Oper}{t n off:Nat}{e:TypeId}{x p:Operand}{cs:List Ce}{ds:b8}{pp:b8}{J:Tok}{row ss:List S}{u0:Value}(ho:o.op=.store t p x)(hd:∀d,o.dst=some d->d<a.tmps.size)(hn:eB P t=some n)
  (f0:(a.eval x).cells.size=cs.length) (f3:∀v∈(a.eval x).cells.toList,v.oneCell'=true) (hl:cs.length=n) (e6:a.eval p=.pointer (some ⟨gs.ρ J,eIx (pp 0)*row.length+off,none⟩)) (b3:eIx (pp 0)<(dJ (pp 0)).length) (g3:dp P w gs base J true e row (dJ (pp 0)) u0)
  (g1:bk P e=some row) (i0:∀(k:Nat) s,ss[k]?=some s->∃u,(a.eval x).cells[k]?=some u/\ci P base w gs J true (eIx (pp 0)) (off+k) s (mR cs ds k) u) (f1:(row.drop off).take n=ss) (m3:1<=n) (m2:off+n<=row.length) :
  QC P base (St.put (a3.setRows J ((dJ (pp 0)).set (eIx (pp 0)) (fj (sub ((dJ (pp 0)).getD (eIx (pp 0)) []) 0 row.length) off (mR cs ds)))) o.dst .none_) o p a w:=by
 generalize l9:dJ (pp 0)=rows at *;generalize eIx (pp 0)=i at *;rcases g3 with⟨h0,_⟩ | ⟨cap,arr,E,h1,h2,⟨h3,hE,h3'⟩,h4,h5,h6,h7,h8,h9,h10,h11⟩
 ·rw[h0] at b3;simp at b3
 ·subst hE;have e7:(a.eval x).cells.toList.length=n:=by simp[f0,hl]
  have m5:i*row.length+row.length<=rows.length*row.length:=by rw[<- C8];exact v7 _ b3
  have b0:rows.length*row.length<=cap*row.length:=v7 _ h2;have b5:i*row.length+off+n<=arr.size:=by rw[h7];omega
  have d1:i*row.length+off+(a.eval x).cells.toList.length<=arr.size:=by rw[e7];exact b5
  have f2:=HL (P:=P) (w:=w) (b:=gs.ρ J) (o:=i*row.length+off) hn (by rw[f0,hl]) h6 b5 f3;generalize l0:(a.eval x).cells.toList=vs at *;have a0:∀b,b≠gs.ρ J->(w.setRow (gs.ρ J) (gZ arr (i*row.length+off) vs)).heap[b]?=w.heap[b]?:=fun b hb=>setRow_other w (gs.ρ J) b _ hb
  have c7:(w.setRow (gs.ρ J) (gZ arr (i*row.length+off) vs)).heap[gs.ρ J]?=some (.cells (gZ arr (i*row.length+off) vs) E (0,0)):=setRow_heap w _ arr _ E _ h6;have b2:(w.setRow (gs.ρ J) (gZ arr (i*row.length+off) vs)).heap.size=w.heap.size:=by simp[World.setRow]
  have c4:gs.prot (gs.ρ J)=0:=by rw[h10];rfl
  have b4:∀ {s:S} {x:D} {v:Value},VD P w gs.prot s x v->VD P (w.setRow (gs.ρ J) (gZ arr (i*row.length+off) vs)) gs.prot s x v:=fun h =>h.mono fun b o u q1 Z=>⟨(bd (a0 b (by rintro rfl;rw[c4] at q1;omega)) o).trans Z,q1⟩
  have b6:∀ {U:Tok} {xm:Bool} {V j:Nat} {s:S} {d:D} {z:Value},ci P base w gs U xm V j s d z->ci P base (w.setRow (gs.ρ J) (gZ arr (i*row.length+off) vs)) gs U xm V j s d z:=fun {U xm V j s d z} h =>
   h.mono rfl (fun b o u q1 Z=>⟨(bd (a0 b (by rintro rfl;rw[c4] at q1;omega)) o).trans Z,q1⟩) (fun _ b o h0 a5 d4 hb=>by
    have g2:b≠gs.ρ J:=by
     by_cases ht:U=J
     ·subst ht;exact d4
     ·intro e;rw[e,h5] at a5;injection a5 with a5;injection a5 with a5;exact ht a5.symm
    exact⟨(a0 b g2).trans hb,h0,a5,d4,rfl,rfl,fun e=>e⟩)
  generalize k0:fj (sub (rows.getD i []) 0 row.length) off (mR cs ds)=nr;have l6:(mR cs ds).length=n:=by
   have:∀(cs:List Ce) (ds:b8),(mR cs ds).length=cs.length:=by
    intro cs
    induction cs with
    | nil=>intro ds;rfl
    | cons c cs ih=>intro ds;simp[mR,ih]
   rw[this,hl]
  have c9:∀j,j<row.length->nr j=if off<=j/\j<off+n then mR cs ds (j - off) else rows.getD i [] j:=fun j hj=>by rw[<- k0,Ri _ _ _ _ (by rw[eH];exact hj),l6,fq _ _ _ _ hj,i9]
  have c2:(rows.set i nr).length=rows.length:=by simp
  have c8:∀(V j:Nat) s,V<rows.length->row[j]?=some s->∃u,(gZ arr (i*row.length+off) vs)[V*row.length+j]?=some u/\ci P base (w.setRow (gs.ρ J) (gZ arr (i*row.length+off) vs)) gs J true V j s (((rows.set i nr).getD V []) j) u:=by
   intro V j s a8 hs;have hj:=(g5.1 hs).1;rw[CI _ _ _ d1,e7];have i2:(rows.set i nr).getD V []=if i=V then nr else rows.getD V []:=by
    rw[f9,L5];by_cases e:i=V
    ·subst e;simp[a8]
    ·simp[e,f9]
   rw[i2];by_cases hin:i*row.length+off<=V*row.length+j/\V*row.length+j<i*row.length+off+n
   ·have c3:i=V:=by
     rcases Nat.lt_trichotomy i V with h | h | h
     ·exfalso
      have:(i+1)*row.length<=V*row.length:=v7 _ h;rw[C8] at this;omega
     ·exact h
     ·exfalso
      have:(V+1)*row.length<=i*row.length:=v7 _ h;rw[C8] at this;omega
    subst c3;rw[j8 hin,j8 rfl,c9 j hj,j8 (by omega)];have l7:ss[j - off]?=some s:=by rw[<- f1,s7,j8 (by omega),y0,show off+(j - off)=j from by omega];exact hs
    obtain⟨u,q1,Z⟩:=i0 _ s l7;rw[show off+(j - off)=j from by omega] at Z;refine⟨u,?_,b6 Z⟩;rw[show i*row.length+j - (i*row.length+off)=j - off from by omega,<- l0];simpa using q1
   ·rw[i7 hin];obtain⟨u,q1,Z⟩:=h11 V j s a8 hs;refine⟨u,q1,?_⟩;by_cases c3:i=V
    ·subst c3;rw[j8 rfl,c9 j hj,i7 (by omega)];exact b6 Z
    ·rw[i7 c3];exact b6 Z
  have c5:∀ {xm:Bool} {e':TypeId} {O:List S} {a1:List b8} {v:Value},bk P e'=some O->dp P w gs base J xm e' O a1 v->a1.length=(rows.set i nr).length/\dp P (w.setRow (gs.ρ J) (gZ arr (i*row.length+off) vs)) gs base J xm e' O (rows.set i nr) v:=by
   intro xm e' O a1 v a4 h;rcases h with⟨_,h,_⟩ | ⟨cap',Y,E',k1,k2,⟨k3,kE,k3'⟩,k4,k5,k6,k7,k8,k9,k10,k11⟩
   ·omega
   ·have ee:e'=E:=by rw[k3',h3']
    subst ee;rw[g1] at a4;injection a4 with a4;subst a4
    rw[h6] at k6;injection k6 with k6
    injection k6 with q1 Z q3
    subst q1;have c1:a1.length=(rows.set i nr).length:=by rw[c2,k8,h8]
    refine⟨c1,.inr ⟨cap',_,e',by rw[k1,c1],by rw[<- c1];exact k2,⟨k3,rfl,k3'⟩,k4,k5,by rw[c7,Z,kE],by rw[yl _ _ _ d1];exact k7,by rw[<- c1];exact k8,k9,k10,fun V j s a8 hs=>?_⟩⟩;have l2:V<rows.length:=by rw[<- c2];exact a8
    obtain⟨z,z1,z2⟩:=c8 V j s l2 hs;cases xm with
    | true=>exact⟨z,z1,z2⟩
    | false =>
     have m1:gs.len J*gs.wid J=0:=by have:=k10;rw[c4] at this;simp only[u4,if_false] at this;exact this.symm
     have h1:0<gs.len J:=by rw[<- h8];omega
     have h2:0<gs.wid J:=by rw[<- h9];have:=(g5.1 hs).1;omega
     have:=Nat.mul_pos h1 h2;omega
  have b1:∀ {U:Tok} {xm:Bool} {e':TypeId} {O:List S} {a1:List b8} {v:Value},U≠J->dp P w gs base U xm e' O a1 v->dp P (w.setRow (gs.ρ J) (gZ arr (i*row.length+off) vs)) gs base U xm e' O a1 v:=by
   intro U xm e' O a1 v ht h;rcases h with h | ⟨cap',Y,E',k1,k2,k3,k4,k5,k6,k7,k8,k9,k10,k11⟩
   ·exact .inl h
   ·refine .inr ⟨cap',Y,E',k1,k2,k3,k4,k5,by rw[a0 _ (by intro e;rw[e,h5] at k5;injection k5 with k5;injection k5 with k5;exact ht k5.symm)];exact k6,k7,k8,k9,k10,fun V j s a8 hs=>?_⟩;obtain⟨u,q1,Z⟩:=k11 V j s a8 hs;exact⟨u,q1,b6 Z⟩
  have c6:∀ {cells:List S} {a2:Nat} {x:D} {v:Value},fU P w gs base cells a2 x v->fU P (w.setRow (gs.ρ J) (gZ arr (i*row.length+off) vs)) gs base cells a2 x v:=by rintro cells a2 x v ⟨b,o,q1,Z,q3⟩;refine⟨b,o,q1,Z,fun j s hs=>?_⟩;obtain⟨u,z1,z2⟩:=q3 j s hs;exact⟨u,(bd (a0 b (hr.oldNe Z h5)) _).trans z1,b4 z2⟩
  have e9:∀c x v,VC P w gs base c x v->VC P (w.setRow (gs.ρ J) (gZ arr (i*row.length+off) vs)) gs base (Lt (· == J) c) (aka J (rows.set i nr) c x) v:=by
   intro c x v hv;cases c with
   | any=>trivial
   | d s=>exact b4 hv
   | kb b=>exact hv
   | own U xm e' =>
    obtain⟨O,a4,hv⟩:=hv;refine⟨O,a4,?_⟩;show dp P _ gs base U xm e' O (bif U==J then D.l (rows.set i nr) else x).rows v;by_cases ht:U=J
    ·subst ht;rw[show (U==U)=true from by simp];exact (c5 a4 hv).2
    ·rw[show (U==J)=false from by simpa using ht];exact b1 ht hv
   | ptr id a2=>exact hv
   | eptr tk e' a2 =>
    cases tk with
    | none =>obtain⟨O,b,o,q1,Z,q3,q4⟩:=hv;refine⟨O,b,o,q1,Z,q3,fun j s hs=>?_⟩;obtain⟨u,z1,z2,z3⟩:=q4 j s hs;exact⟨u,(bd (a0 b (by rintro rfl;rw[c4] at z2;omega)) _).trans z1,z2,b4 z3⟩
    | some U =>
     obtain⟨O,a4,Z,q3,u,q4⟩:=hv;refine⟨O,a4,?_⟩;show v=.pointer (some ⟨gs.ρ U,eIx (bif U==J then D.l [[.l (rows.set i nr),x 0 1]] else x)*O.length+a2,none⟩)/\eIx (bif U==J then D.l [[.l (rows.set i nr),x 0 1]] else x)<(dJ (bif U==J then D.l [[.l (rows.set i nr),x 0 1]] else x)).length/\∃u,dp P _ gs base U true e' O (dJ (bif U==J then D.l [[.l (rows.set i nr),x 0 1]] else x)) u;by_cases ht:U=J
     ·subst ht;rw[show (U==U)=true from by simp,f8];obtain⟨z1,z2⟩:=c5 a4 q4;exact⟨Z,by show eIx x<(rows.set i nr).length;rw[<- z1];exact q3,u,z2⟩
     ·rw[show (U==J)=false from by simpa using ht,f5];exact⟨Z,q3,u,b1 ht q4⟩
   | inn U e' a2 l5 =>
    show VC P _ gs base (bif U==J then .any else .inn U e' a2 l5) x v;by_cases ht:U=J
    ·rw[show (U==J)=true from by simpa using ht];trivial
    ·rw[show (U==J)=false from by simpa using ht,f5];exact mZ hv rfl (fun o a7 l4=>(a0 _ (by intro e;rw[e,h5] at a7;injection a7 with a7;injection a7 with a7;exact ht a7.symm)).trans l4) (fun hu=>b1 ht hu)
   | cptr cells a2=>exact c6 hv
   | fn f caps =>
    obtain⟨Y,q1,Z,q3⟩:=hv;refine⟨Y,q1,Z,fun j c hc=>?_⟩;obtain⟨u,hu,b0⟩:=q3 j c hc;refine⟨u,hu,?_⟩;cases c with
    | d s=>exact b4 b0
    | ptr id off=>exact b0
    | cptr cells off=>exact c6 b0
  have d2:∀ {cs:List Ce} {ds:b8} {Y:Array Value},VCs P w gs base cs ds Y->VCs P (w.setRow (gs.ρ J) (gZ arr (i*row.length+off) vs)) gs base (cs.map (Lt (· == J))) (qb J (rows.set i nr) cs ds) Y:=by intro cs ds Y h;refine⟨by rw[m9];exact h.1,fun j c hj=>?_⟩;obtain⟨c0,e0,rfl⟩:=RM hj;obtain⟨u,q1,Z⟩:=h.2 j c0 e0;exact⟨u,q1,by rw[sO _ _ _ _ j c0 e0];exact e9 c0 _ _ Z⟩
  have l1:∀ {q:T} {v:Value},VT P w gs base q v->VT P (w.setRow (gs.ρ J) (gZ arr (i*row.length+off) vs)) gs base (adV J (rows.set i nr) q) v:=by
   intro q v hv;obtain⟨sh,pq⟩:=q;cases sh with
   | tup xs=>trivial
   | one xx=>cases xx with
    | c xx =>show VC P _ gs base (Lt (· == J) xx) (qb J (rows.set i nr) [xx] pq 0) v;rw[sO _ _ _ _ 0 xx rfl];exact e9 xx _ _ hv
    | agg xs =>obtain⟨Y,rfl,hh⟩:=hv;exact⟨Y,rfl,d2 hh⟩
  have i1:Rel P (w.setRow (gs.ρ J) (gZ arr (i*row.length+off) vs)) gs base (a3.setRows J (rows.set i nr)) a:=by
   refine⟨fun j=>?_,fun id o0 n1 hq=>?_,by rw[b2];exact hr.fresh,by rw[b2];exact hr.base_le,hr.defers,hr.lowIn (fun b hb=>a0 b (hr.oldNe hb h5)) (C5 b2.symm) (fun b U i3 e1 _ a5 n2 a6 _=>by
    by_cases d5:b=gs.ρ J
    ·subst d5;rw[h6] at a6;injection a6 with a6
     injection a6 with a6
     subst a6;rename_i l3 _ _;exact⟨_,by rw[c7,l3],yl _ _ _ d1⟩
    ·exact⟨i3,(a0 b d5).trans a6,rfl⟩),hr.mine⟩
   ·have e1:=sg (adV J (rows.set i nr)) rfl a3.e j a3.r;show VT P _ gs base (bZ j (a3.e.map _) (a3.r.map _)) _;rw[e1];exact l1 (hr.env j)
   ·have e1:=Bd (List.map (Lt (· == J))) (qb J (rows.set i nr)) a3.h id;change bH id (a3.setRows J (rows.set i nr)).h=_ at e1;rw[hq] at e1;cases d3:bH id a3.h with
    | none=>rw[d3] at e1;cases e1
    | some q =>obtain⟨n0,m4⟩:=q;rw[d3] at e1;injection e1 with e1;injection e1 with e2 e3;subst e2;subst e3;obtain⟨j1,j2,j3,jl,Y,E',j4,j5⟩:=hr.box id _ _ d3;exact⟨j1,j2,j3,by rw[tl,m9],Y,E',by rw[a0 _ (by intro e';rw[e',h5] at j2;injection j2 with j2;cases j2)];exact j4,d2 j5⟩
  refine⟨undef,_,gs,.inr ⟨?_,rfl⟩,i1.put hd (t:=.none_) ⟨#[],rfl,rfl,fun j x h=>by simp at h⟩,⟨rfl,rfl,rfl,by rw[b2];exact g8 _,fun k i4=>a0 k (by omega)⟩,fun B hB=>⟨rfl,rfl,rfl,by rw[b2];exact g8 _,fun k i4=>a0 k (by have:=hB _ _ e6;omega)⟩⟩;simp only[execOp,ho,e6,j7,f2,g7,m8]
theorem UR(a3:Rel P w g base σ a){o:Oper}{t n off:Nat}{e:TypeId}{x p:Operand}{cs:List Ce}{ds:b8}{pp:b8}{J:Tok}{row ss:List S}(ho:o.op=.store t p x)(hd:∀d,o.dst=some d->d<a.tmps.size)(hn:eB P t=some n)
  (hc:(agt P σ t x).cells=some (cs,ds)) (hl:cs.length=n) (hp:(opd σ p)=⟨.one (.c (.eptr (some J) e off)),pp⟩) (Y:bk P e=some row) (b2:DY cs=some ss) (a6:(row.drop off).take n=ss) (a2:(toks cs).contains J=false) (b0:1<=n) (a5:off+n<=row.length) (Z:(!bm J||(cs.all (nC P)&&cj (toks cs)&&(J.1 != 1000001||(toks cs).isEmpty)))=true) :
  QC P base (St.put ((bif bm J then ni (toks cs) σ else σ.seal (toks cs)).setRows J ((dJ (pp 0)).set (eIx (pp 0)) (fj (sub ((dJ (pp 0)).getD (eIx (pp 0)) []) 0 row.length) off (mR cs ds)))) o.dst .none_) o p a w:=by
 have b3:=cZ a3 p;rw[hp] at b3;obtain⟨hx,a7⟩:=rI hc (ZX a3 t x);obtain⟨c1,O,b1,a0,u0,V⟩:=b3;rw[Y] at O;injection O with O;subst O
 cases a4:bm J with
 | false =>rw[f5];have a8:=YY (ts:=toks cs) hx b2 (fun t h=>u7.2 h);have hr:=a3.seal (toks cs);have a1:=Dj (ts:=toks cs) V;rw[a2] at a1;simp only[w5,v6] at a1;exact DF hr ho hd hn hx.1 (xC hx a7) hl b1 a0 a1 Y (fun k s hs=>by obtain⟨u,q1,q2⟩:=a8.2 k s hs;exact⟨u,q1,.of_vd q2 (.inl (by rw[a4];rfl))⟩) a6 b0 a5
 | true =>
  rw[f8];rw[a4] at Z;simp only[l8,F5,a9] at Z;have b4:g.owner (g.ρ J)=some (.inr J):=by
   rcases V with⟨h0,_⟩ | ⟨cap,arr,E,h1,h2,h3,h4,h5,rest⟩
   ·change eIx (pp 0)<(dJ (pp 0)).length at a0;rw[h0] at a0;simp at a0
   ·exact h5
  obtain⟨gs,r1,⟨e1,e2,e3,e4,e5,e6⟩,r2,r3,r4,r5⟩:=nQ (s:=J) (i:=eIx (pp 0)) (cs:=cs) (ds:=ds) (us:=(a.eval x).cells.toList) (j0:=off) a3 (fun k c hk=>by
   obtain⟨u,q1,q2⟩:=hx.2 k c hk;exact⟨u,by simpa using q1,q2⟩) Z.1.1 Z.1.2 a2 (by
    have h9:=Z.2;rw[y9] at h9;rcases h9 with h9 | h9
    ·exact .inr (by simpa using h9)
    ·exact .inl (by simpa using h9)) (fun b t ht U e=>by rw[e,b4] at U;injection U with U;injection U with U;exact ht U.symm)
  refine DF r1 ho hd hn hx.1 (xC hx a7) hl (by rw[e1];exact b1) a0 (r4 a2 Y V) Y (fun k s hs=>?_) a6 b0 a5;obtain⟨c2,b6⟩:=CP b2;obtain⟨c,c0,b5⟩:=b6 k s hs;obtain⟨u,q1,q2⟩:=r5 k c s c0 b5;exact⟨u,by simpa using q1,.of_tr q2 a4⟩
theorem Hw(hr:Rel P w g base σ a){o:Oper}{Y:St}{t:TypeId}{p x:Operand}(ho:o.op=.store t p x)(hd:∀d,o.dst=some d->d<a.tmps.size)(h:JF P σ o.dst t p x=some (Y,true)):QC P base Y o p a w:=by
 unfold JF at h
 split at h
 ·rename_i n cs ds hn hc;cases O:(cs.length==n) with
  | false=>rw[O] at h;cases h
  | true =>
   rw[O,f8] at h;have O:cs.length=n:=by simpa using O
   split at h
   ·rename_i id off hsh
    split at h
    ·rename_i a0 a2 hb;cases V:Nat.ble (off+n) a0.length with
     | false=>rw[V] at h;cases h
     | true =>rw[V] at h;simp only[f8,b7,i8,C6] at h;subst h;exact Vd hr ho hd hn hc O (pp:=(opd σ p).p) (by rw[<- hsh]) hb (v5 V)
    ·cases h
   ·rename_i U e off hsh
    split at h
    ·rename_i row ss Z a1;cases J:((row.drop off).take n==ss && !(toks cs).contains U&&Nat.ble 1 n&&Nat.ble (off+n) row.length&&(!bm U||(cs.all (nC P)&&cj (toks cs)&&(U.1 != 1000001||(toks cs).isEmpty)))) with
     | false=>rw[J] at h;cases h
     | true =>rw[J] at h;simp only[f8,b7,i8,C6] at h;subst h;rw[a9] at J;obtain⟨J,q5⟩:=J;simp only[a9,p6,m6] at J;obtain⟨⟨⟨q1,q2⟩,q3⟩,q4⟩:=J;exact UR hr ho hd hn hc O (pp:=(opd σ p).p) (by rw[<- hsh]) Z a1 q1 q2 (v5 q3) (v5 q4) q5
    ·cases h
   ·cases h
 ·cases h
theorem Yj(V:Rel P w g base σ a){o:Oper}{J:St}{t:TypeId}{p x:Operand}(U:o.op=.store t p x)(O:∀d,o.dst=some d->d<a.tmps.size)(h:JF P σ o.dst t p x=some (J,true)):TS P base J o a w:=(Hw V U O h).does
theorem sv(Z:Rel P w g base σ a){o:Oper}{a5:St}{d n:Nat}{t:TypeId}{J:Array (Nat × Operand)}(ho:o.op=.buildSlice t n J)(U:o.dst=some d)(hd:∀d,o.dst=some d->d<a.tmps.size)
  (h:lV P σ d t n J.toList=some (a5,true)):wU P base a5 o a w:=by
 unfold lV at h
 split at h
 ·rename_i e he a6
  split at h
  ·rename_i row O;cases Y:(n==0&&iT P e row) with
   | false=>rw[Y] at h;cases h
   | true =>
    rw[Y] at h;simp only[f8,b7,i8,C6] at h;subst h;simp only[a9,p6] at Y;obtain⟨rfl,hz⟩:=Y;have a1:=gH O;have b5:J = #[]:=by cases J;simp_all
    subst b5;have hE:=JW (g:=g) (w:=w) (d,1000000) e 0 row.length 0 (.cells #[] e);have r1:Rel P (w.alloc (.cells #[] e)) (du g (d,1000000) e w.heap.size 0 row.length 0) base (σ.wipe d) a:=Z.wipeRow (hd d U) hE rfl (Gv Z _ _ _ _ _ _);have o3:(du g (d,1000000) e w.heap.size 0 row.length 0).len (d,1000000)=0:=j8 rfl;have a0:VT P (w.alloc (.cells #[] e)) (du g (d,1000000) e w.heap.size 0 row.length 0) base (.c (.own (d,1000000) true e) (.l [])) (.slice (some ⟨w.heap.size,0,none⟩) 0 0):=⟨row,O,.inl ⟨rfl,o3,_,rfl⟩⟩;refine⟨.slice (some ⟨w.heap.size,0,none⟩) 0 0,_,_,.inl ?_,r1.put hd (t:=.c (.own (d,1000000) true e) (.l [])) a0 |> fun h=>by rw[U] at h ⊢;exact h,(Below.refl _ _).alloc Z.base_le _,(Below.refl _ _).alloc (g8 _) _⟩;simp only[execOp,ho,Instr.buildSlice,j7,run_underlying (gV he),eP a1,g7];rw[i7 (by omega)];simp[Instr.fill,ij,j7,m8,g7]
    congr 2
    exact Array.eq_empty_of_size_eq_zero (by simp)
  ·cases h
 ·rename_i e i x he a6
  split at h
  ·rename_i row cs ds O hc;cases Y:(n==1&&i==0&&DY cs==some row&&Nat.ble row.length 16777216&&iT P e row&&cs.all (nC P)&&cj (toks cs) && !(toks cs).contains (d,1000000)) with
   | false=>rw[Y] at h;cases h
   | true =>
    rw[Y] at h;simp only[f8,b7,i8,C6] at h;subst h;simp only[a9,p6,m6] at Y;obtain⟨⟨⟨⟨⟨⟨⟨rfl,rfl⟩,hS⟩,a4⟩,hz⟩,a8⟩,b4⟩,b1⟩:=Y;have a4:=v5 a4;obtain⟨ti,v0,hi,b2,hm⟩:=oD hz;have a7:=lI O;have a1:=gH O;have c2:ti.size=row.length:=by have:=a1;unfold eB at this;rw[hi] at this;injection this
    have hE:=JW (g:=g) (w:=w) (d,1000000) e 1 row.length 0 (.cells (a.eval x).cells e);have r1:Rel P (w.alloc (.cells (a.eval x).cells e)) (du g (d,1000000) e w.heap.size 1 row.length 0) base (σ.wipe d) a:=Z.wipeRow (hd d U) hE rfl (Gv Z _ _ _ _ _ _);obtain⟨hx,c1⟩:=rI hc (cZ r1 x);obtain⟨b0,b6⟩:=CP hS;have a3:(a.eval x).cells.size=row.length:=by rw[hx.1];exact b0.symm
    have o1:(du g (d,1000000) e w.heap.size 1 row.length 0).owner w.heap.size=some (.inr (d,1000000)):=j8 rfl;have o2:(du g (d,1000000) e w.heap.size 1 row.length 0).ρ (d,1000000)=w.heap.size:=j8 rfl;have o3:(du g (d,1000000) e w.heap.size 1 row.length 0).len (d,1000000)=1:=j8 rfl;have o4:(du g (d,1000000) e w.heap.size 1 row.length 0).wid (d,1000000)=row.length:=j8 rfl;have o5:(du g (d,1000000) e w.heap.size 1 row.length 0).prot w.heap.size=0:=j8 rfl;have o6:(du g (d,1000000) e w.heap.size 1 row.length 0).ety (d,1000000)=e:=j8 rfl;obtain⟨gs,r2,⟨e1,e2,e3,e4,e5,e6⟩,r3,r4,r5,r6⟩:=nQ (s:=(d,1000000)) (i:=0) (cs:=cs) (ds:=ds) (us:=(a.eval x).cells.toList) (j0:=0) r1 (fun k c hk=>by
     obtain⟨u,q1,q2⟩:=hx.2 k c hk;exact⟨u,by simpa using q1,q2⟩) a8 b4 b1 (.inr (Nat.ne_of_lt (y8 (hd d U) (o8 Z.defers.2 (by decide))))) (fun b t ht V e'=>by
     rw[o2] at e';subst e';rw[o1] at V;injection V with V
     injection V with V
     exact ht V.symm)
    have a0:VT P (w.alloc (.cells (a.eval x).cells e)) gs base (.c (.own (d,1000000) true e) (.l [mR cs ds])) (.slice (some ⟨w.heap.size,0,none⟩) 1 1):=by
     refine⟨row,O,.inr ⟨1,(a.eval x).cells,e,by rw[e1,o2];rfl,g8 _,⟨by decide,rfl,by rw[e4,o6]⟩,by rw[e1,o2];exact Z.base_le,by rw[e1,o2];exact r3.2 _ o1,by rw[e1,o2];exact fw w _,by rw[a3,Nat.one_mul],by rw[e2,o3];rfl,by rw[e3,o4],by rw[e1,o2,e6,o5];rfl,fun i j s hi hs=>?_⟩⟩;have hi:i<1:=hi;have hi:i=0:=by omega
     subst hi;obtain⟨c,c0,b3⟩:=b6 j s hs;obtain⟨u,q1,q2⟩:=r6 j c s c0 b3;refine⟨u,by rw[K2,i9];simpa using q1,.of_tr ?_ rfl⟩;rw[i9] at q2;exact q2
    have a2:Instr.fill (fun i=>some (i*row.length,row.length)) ((Array.range (1*row.length)).map ((if 1*row.length=0 then #[] else v0.cells)[· % (if 1*row.length=0 then #[] else v0.cells).size]!)) (J.map fun p=>(p.1,a.eval p.2)).toList=some (a.eval x).cells:=by rw[K1,a6];have:=Great.fill_whole a7 [a.eval x] ((Array.range (1*row.length)).map ((if 1*row.length=0 then #[] else v0.cells)[· % (if 1*row.length=0 then #[] else v0.cells).size]!)) (fun v hv=>by simp only[n4] at hv;subst hv;exact a3) (by simp);simpa using this
    refine⟨.slice (some ⟨w.heap.size,0,none⟩) 1 1,_,gs,.inl ?_,r2.put hd (t:=.c (.own (d,1000000) true e) (.l [mR cs ds])) a0 |> fun h=>by rw[U] at h ⊢;exact h,(Below.refl _ _).alloc Z.base_le _,(Below.refl _ _).alloc (g8 _) _⟩;simp only[execOp,ho,Instr.buildSlice,j7,run_underlying (gV he),eP a1,g7];rw[i7 (by omega)];have h0:¬1*row.length=0:=by omega
    simp only[i7 h0] at a2 ⊢;simp only[j7,xO hi b2,m8,g7];rw[a2];simp only[j7,ij,g7,m8]
  ·cases h
 ·cases h
end
end Go.Proofs.YtpdfmcmnjikppaaGreat
