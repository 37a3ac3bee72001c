/-
 Texts of the proof,put together: part 6.
-/
import Derived.Test.YtpdfmcmnjikppaaGreatSS1
import Derived.Test.YtpdfmcmnjikppaaGreatSS2
import Derived.Test.YtpdfmcmnjikppaaGreatSS3
import Derived.Test.YtpdfmcmnjikppaaGreatSS4
import Derived.Test.YtpdfmcmnjikppaaGreatSS5
import Derived.Lib.SlicesCompact
import Derived.Lib.RowBridge
set_option linter.unusedSimpArgs false
set_option linter.unusedVariables false
set_option linter.unusedSectionVars false
noncomputable section
namespace Go.Proofs.YtpdfmcmnjikppaaGreat
abbrev n9:=@List.getElem_of_mem
abbrev z9:=@List.take_of_length_le
abbrev D7:=@List.filter_congr
abbrev G8:=@List.getElem_map
abbrev H0:=@List.filter_filter
abbrev H2:=@List.length_filter_le
abbrev I1:=@bne_self_eq_false
abbrev I2:=@Nat.mul_one
abbrev J5:=@Nat.add_sub_cancel
abbrev J7:=@List.nodup_append
abbrev L1:=@List.getElem_range
abbrev M5:=@List.range'_succ
end Go.Proofs.YtpdfmcmnjikppaaGreat
namespace Go.Proofs.YtpdfmcmnjikppaaGreat
open Go.RowKit (Below)
def ai(z:D):List Int:=z.rows.map fun r=>(r 0).int
def Lg(xs:List Int):D:=.l (xs.map fun n => [.i n])
def Rj(xs:List Int):List Int:=xs.mergeSort fun x y=>decide (x<=y)
def eZ(z:D):D:=Lg (Rj (ai z))
def nM(z:D):D:=Lg (Lib.compact (ai z))
theorem bR(z:D):(ai z).length=z.rows.length:=by simp[ai]
theorem LX(xs:List Int):(Lg xs).rows=xs.map fun n => [.i n]:=rfl
theorem jM(xs:List Int):(Lg xs).rows.length=xs.length:=by simp[Lg,D.rows]
theorem WR(xs:List Int)(i:Nat)(h:i<xs.length):(((Lg xs).rows.getD i []) 0).int=xs[i]:=by rw[LX,f9,u6,g6 h];rfl
theorem cP(z:D)(i:Nat)(h:i<z.rows.length):(ai z)[i]?=some (z.rows.getD i [] 0).int:=by simp[ai,f9,g6 h]
theorem Uq(xs:List Int):ai (Lg xs)=xs:=by
 unfold ai;rw[LX,A7];have:((fun r=>(r 0).int) ∘ fun n:Int => [D.i n])=id:=by funext n;rfl
 rw[this,List.map_id]
theorem yd(xs:List Int):(Rj xs).length=xs.length:=List.length_mergeSort xs
theorem aax(xs:List Int):(Lib.compact xs).length<=xs.length:=by unfold Lib.compact Lib.compactUpTo;rw[m9];exact o8 (H2 _ _) (by simp)
theorem Wj{w:World}{b n:Nat}{J:Array Value}{e:TypeId}{d:Array Int}{os:Array Obj}{rows:List b8}(Z:w.heap[b]?=some (.cells J e (0,0)))(hd:d.size<=J.size)
  (hr:∀i,i<rows.length->i<d.size/\d[i]! = (rows.getD i [] 0).int):alB b e J rows w (Go.Sort.grow (Go.Sort.putRow (Value.int .i64) (Go.Sort.ahead w n) b 0 d) os):=by
 have hb:=aT Z;have h1:(Go.Sort.grow (Go.Sort.putRow (Value.int .i64) (Go.Sort.ahead w n) b 0 d) os).heap=w.heap.modify b (Go.Sort.onCells (Go.Sort.putCells (Value.int .i64) 0 d))++os:=rfl;have V:∀k,k<w.heap.size->(Go.Sort.grow (Go.Sort.putRow (Value.int .i64) (Go.Sort.ahead w n) b 0 d) os).heap[k]?=if b=k then (w.heap[k]?).map (Go.Sort.onCells (Go.Sort.putCells (Value.int .i64) 0 d)) else w.heap[k]?:=fun k hk=>by rw[h1,r9 (by simpa using hk),M1]
 refine⟨⟨rfl,rfl,rfl,by rw[h1];simp,fun k hk=>by omega⟩,fun k hk U=>by rw[V k hk,i7 (Ne.symm U)],Go.Sort.putCells (Value.int .i64) 0 d J,?_,?_,?_⟩
 ·rw[V b hb,j8 rfl,Z];rfl
 ·simp[Go.Sort.putCells]
 ·intro i hi;obtain⟨Y,q2⟩:=hr i hi;have O:i<J.size:=by omega
  unfold Go.Sort.putCells;rw[Array.getElem?_mapIdx,n3 O];rw[getElem!_pos d i Y] at q2;simp only[<- q2];simp[Y]
theorem Ls{w:World}{b:Nat}{J:Array Value}{e:TypeId}{x:D}(U:w.heap[b]?=some (.cells J e (0,0)))(Y:x.rows.length<=J.size)(V:∀i,i<x.rows.length->J[i]?=some (.int .i64 (x.rows.getD i [] 0).int)) :
  Go.Sort.Holds (Value.int .i64) w b 0 (ai x).toArray:=by
 intro j O;have O:j<x.rows.length:=by simpa [ai] using O
 refine⟨?_,?_⟩
 ·have e1:(ai x).toArray[j]! = (x j 0).int:=by have:=cP x j O;simp[getElem!_def,this]
  rw[e1];simp only[World.cell?,U,i9];exact V j O
 ·simp[World.frozen?,U]
def aaB:Ent:=(161,e1 (sd (.sl 3)) fun p=>(⟨.tup [.c .any],[eZ (p 0)]⟩,leI (p 0) 1000000000))
theorem acH:aw f4 aaB:=ck fun p h=>by
 have h:leI (p 0) 1000000000=true:=h;simp only[leI,f7] at h;refine aQ.ofW rfl ⟨cN Tryz.func161 (by kernel_rfl) (by kernel_rfl),fun e x J a0=>?_⟩;injection J with J _
 injection J with J hp
 injection J with J
 injection J with J
 injection J with J
 injection J with J
 subst J;subst hp;have hx:gd [x] 0=x:=rfl;rw[hx] at h;refine⟨fun Z=>⟨?_,fun A w=>?_⟩,fun w b cap a1 O a3 a2 hc U=>⟨?_,fun _=>?_,?_⟩⟩
 ·show (eZ x).rows = [];have:ai x = []:=by unfold ai;rw[Z];rfl
  exact t6 (by rw[eZ,jM,yd,this];rfl)
 ·refine (Any.slices_Sort_int_none Tryz.lays189 A 0 w).mono ?_;rintro ex w' ⟨rfl,rfl⟩;exact⟨rfl,Below.refl _ _⟩
 ·show (eZ x).rows.length<=_;rw[eZ,jM,yd,bR];exact g8 _
 ·show (eZ x).rows.length=_;rw[eZ,jM,yd,bR]
 ·have V:=bR x;have hs:=Any.slices_Sort_int Tryz.lays189 b 0 cap (ai x) w (Ls O (by omega) U) (aT O) (by omega);rw[V] at hs;refine hs.mono ?_;rintro ex w' ⟨rfl,n,os,rfl⟩;refine⟨rfl,Wj O (by simp[V];omega) fun i hi=>?_⟩;have hi:i<(Rj (ai x)).length:=by
   have hi:i<(eZ x).rows.length:=hi
   rwa [eZ,jM] at hi
  refine⟨by simpa [Rj] using hi,?_⟩;show _=(eZ x i 0).int;rw[eZ,WR _ _ hi];have Y:i<((ai x).mergeSort fun x y=>decide (x<=y)).length:=hi;simp[getElem!_def,g6 Y,Rj]
def aag:Ent:=(162,e1 (sd (.sl 3)) fun p=>(⟨.tup [.agg []],[nM (p 0)]⟩,leI (p 0) 1000000000))
theorem adE:aw f4 aag:=ck fun p h=>by
 have h:leI (p 0) 1000000000=true:=h;simp only[leI,f7] at h;refine aQ.ofW rfl ⟨cN Tryz.func162 (by kernel_rfl) (by kernel_rfl),fun e x J a1=>?_⟩;injection J with J _
 injection J with J hp
 injection J with J
 injection J with J
 injection J with J
 injection J with J
 subst J;subst hp;have hx:gd [x] 0=x:=rfl;rw[hx] at h;have O:∀x:D,(nM x).rows.length=(Lib.compact (ai x)).length:=fun x=>jM _
 refine⟨fun h0=>⟨?_,fun A w=>?_⟩,fun w b cap a2 V a4 a3 Y U=>⟨?_,?_,?_⟩⟩
 ·show (nM x).rows = [];have:ai x = []:=by unfold ai;rw[h0];rfl
  unfold nM;rw[this];rfl
 ·refine (Any.slices_Compact_int_empty Tryz.laysNm220 A 0 w).mono ?_;rintro ex w' ⟨rfl,rfl⟩;exact⟨rfl,Below.refl _ _⟩
 ·show (nM x).rows.length<=_;rw[O,<- bR];exact aax _
 ·rintro⟨c,Y⟩;cases Y
 ·have Z:=bR x;have a0:=aax (ai x);have hs:=Any.slices_Compact_int Tryz.laysNm220 b 0 cap (ai x) w (Ls V (by omega) U) (by omega) (by omega);rw[Z] at hs;refine hs.mono ?_;rintro ex w' ⟨rfl,n,rfl⟩;refine⟨?_,?_⟩
  ·show _=Ending.returned (.slice (some ⟨b,0,none⟩) (nM x).rows.length cap);rw[O]
  ·have:=Wj (os:= #[]) (n:=n) (rows:=(nM x).rows) (d:=(Lib.compact (ai x)++List.replicate (x.rows.length - (Lib.compact (ai x)).length) 0).toArray) V (by simp;omega) fun i hi=>?_
   ·rw[Go.Sort.grow_empty] at this;exact this
   ·rw[O] at hi;refine⟨by simp;omega,?_⟩;rw[nM,WR _ _ hi];simp[getElem!_def,v9 hi,g6 hi]
theorem JS{P:Program}{prot:Nat->Nat}{w w':World}{e:TypeId}{x:D}{v:Value}(U:bk P e=some [.int .i64])(J:∀b,w.heap.size<=b->prot b=0)(V:Below w.heap.size w w')(Y:w'.ownsRow w.heap.size e 1 v x.rows.length ((ai x).map (Value.int .i64))) :
  ∃g',Res P prot w w' ⟨.one (.c (.own (0,0) true e)),[x]⟩ v g':=by
 obtain⟨hl,⟨rfl,Z⟩ | ⟨blk,cap,cur,rfl,hblk,hh,hcap,hmax,hsz,htk⟩⟩:=Y
 ·exact⟨g0 0 prot,V,⟨[.int .i64],U,.inl ⟨t6 Z,rfl,none,rfl⟩⟩,fun _ _=>rfl,fun b O=>⟨J b (o8 V.size O),rfl⟩⟩
 ·refine⟨⟨prot,fun b=>if b=blk then some (.inr (0,0)) else none,fun _=>0,fun _=>blk,fun _=>x.rows.length,fun _=>1,fun _=>e,fun _ => [],fun _=>0,fun _=>False⟩,V,⟨[.int .i64],U,.inr ⟨cap,cur,e,rfl,hcap,⟨by unfold maxLen at hmax;omega,rfl,rfl⟩,hblk,j8 rfl,hh,by simpa using hsz,rfl,rfl,?_,?_⟩⟩,fun _ _=>rfl,fun b O=>⟨J b (o8 V.size O),?_⟩⟩
  ·show prot blk=0;exact J blk hblk
  ·intro i j s hi hs;have hi:i<x.rows.length:=hi
   match j,hs with
   | 0,hs =>
    injection hs with hs
    subst hs;refine⟨.int .i64 (x i 0).int,?_,.of_vd (.int .i64 _) (.inr rfl)⟩;have e1:(cur.toList.take (x.rows.length*1))[i]?=some (Value.int .i64 (x i 0).int):=by rw[htk,u6,cP x i hi];rfl
    rw[s7,j8 (by omega)] at e1;simpa using e1
  ·have:=aT hh;exact i7 (by omega)
def JK:Ent:=(163,e1 (sd (.sl 3)) fun p=>(⟨.one (.c (.own (0,0) true 3)),[.l (p 0).rows]⟩,leI (p 0) 1000000000))
theorem Gs:aw f4 JK:=ck fun p h=>by
 have h:leI (p 0) 1000000000=true:=h;simp only[leI,f7] at h;have U:bk f4 3=some [.int .i64]:=by kernel_rfl
 refine aQ.of rfl ⟨cN Tryz.func163 (by kernel_rfl) (by kernel_rfl),fun w prot vs Z a0=>?_⟩;obtain⟨u,hu,hv⟩:=Z.2 0 _ rfl;have a2:vs = #[u]:=by
  have hs:vs.size=1:=Z.1;refine Array.ext (by simpa using hs) fun i h1 h2=>?_
  have:i=0:=by omega
  subst this;rw[n3 h1] at hu;injection hu
 subst a2;have hv:VD f4 w prot (.sl 3) (p 0) u:=hv;generalize p 0=x at *;cases hv with
 | sl e d A c row uu hr h1 h2 h3 h4 =>
  rw[U] at hr;injection hr with hr
  subst hr;cases A with
  | none =>
   have h0:x.rows.length=0:=by
    rcases C4 x.rows.length with h' | h'
    ·exact h'
    ·obtain⟨b,o,V,_⟩:=h3 0 0 h' (by decide);cases V
   have a1:x.rows = []:=t6 h0;refine (Any.slices_Clone_int_nil Tryz.laysNm215 x.rows.length c w).mono ?_;rintro ex w' ⟨rfl,rfl⟩;obtain⟨g',J⟩:=JS (x:=x) (prot:=prot) (w:=w') (w':=w') U a0 (Below.refl _ _) (v:=.slice none 0 0) ⟨by simp[ai],.inl ⟨rfl,h0⟩⟩;exact⟨_,g',rfl,J.below,J.val,J.prot,J.fresh⟩
  | some ad =>
   rcases C4 x.rows.length with h0 | hpos
   ·have a1:x.rows = []:=t6 h0;rw[h0];refine (Any.slices_Clone_int_zero Tryz.laysNm215 ad c w).mono ?_;rintro ex w' ⟨v',rfl,O,_,Y⟩;obtain⟨g',J⟩:=JS (x:=x) (prot:=prot) U a0 Y (v:=v') (by
     have e1:ai x = []:=by unfold ai;rw[a1];rfl
     rw[h0,e1];exact O)
    exact⟨_,g',rfl,J.below,J.val,J.prot,J.fresh⟩
   ·obtain⟨b,o,V,_⟩:=h3 0 0 hpos (by decide);injection V with V;subst V;have hl:=bR x;refine (Any.slices_Clone_int Tryz.laysNm215 b o x.rows.length c (ai x) w (by omega) (by omega) (fun j hj=>?_)).mono ?_
    ·have hj:j<x.rows.length:=by rw[<- hl];exact hj
     obtain⟨b',o',V,hc,_⟩:=h3 j 0 hj (by decide);simp only[b7,Addr.mk.injEq] at V;obtain⟨rfl,rfl,_⟩:=V;have a3:=h4 j 0 (.int .i64) hj rfl;generalize uu j 0=uv at *;cases a3;have e1:(ai x).getD j 0=(x j 0).int:=by rw[f9,cP x j hj];rfl
     rw[e1];simpa using hc
    ·rintro ex w' ⟨v',rfl,O,_,Y⟩;obtain⟨g',J⟩:=JS (x:=x) (prot:=prot) U a0 Y (v:=v') (by rw[z9 (by omega)] at O;exact O);exact⟨_,g',rfl,J.below,J.val,J.prot,J.fresh⟩
def abP:Ent:=(233,e2 (.one (.c (.own (0,0) true 3))) ri fun p q=>(⟨.one (.c (.own (0,0) true 3)),[.l []]⟩,leI 0 (q 0).int&&leI (q 0).int 1000000000))
theorem aej:aw f4 abP:=bj fun p q h=>by
 have h:(leI 0 (q 0).int&&leI (q 0).int 1000000000)=true:=h;simp only[a9,leI,f7] at h;have U:bk f4 3=some [.int .i64]:=by kernel_rfl
 refine aQ.of rfl ⟨cN Tryz.func233 (by kernel_rfl) (by kernel_rfl),fun w prot vs J V=>?_⟩;obtain⟨u,hu,hv⟩:=J.2 0 _ rfl;obtain⟨u1,Y,O⟩:=J.2 1 _ rfl;have a6:vs = #[u,u1]:=by
  have hs:vs.size=2:=J.1;refine Array.ext (by simpa using hs) fun i h1 h2=>?_
  have:i=0\/i=1:=by omega
  rcases this with rfl | rfl
  ·rw[n3 h1] at hu;injection hu
  ·rw[n3 h1] at Y;injection Y
 subst a6;have O:VD f4 w prot (.int .i64) (q 0) u1:=O;obtain⟨row,_,a0⟩:=hv;generalize q 0=y at *;cases O;rcases a0 with⟨_,_,A,rfl⟩ | ⟨_,_,_,_,_,_,_,ho,_⟩
 ·obtain⟨n,hn⟩:∃n:Nat,y.int=n:=⟨y.int.toNat,by omega⟩;rw[hn];rcases C4 n with rfl | hpos
  ·refine (Any8.slices_Grow_room Tryz.growI A 0 0 0 w (by omega) (by omega) (by omega) (by omega)).mono ?_;rintro ex w' ⟨rfl,rfl⟩;exact⟨_,g0 0 prot,rfl,Below.refl _ _,⟨[.int .i64],U,.inl ⟨rfl,rfl,A,rfl⟩⟩,fun _ _=>rfl,fun b a5=>⟨V b a5,rfl⟩⟩
  ·obtain⟨i0,a7,Z,a8,a3⟩:=info_parts (P:=f4) (e:=3) (z:=.int .i64 0) (size:=1) (bytes:=8) (by kernel_rfl);obtain⟨z,hz⟩:∃z,z=Value.int .i64 0:=⟨_,rfl⟩;have a4:z.cells.size=1:=by rw[hz];rfl
   rw[<- hz] at Z;refine (Any8.slices_Grow_grow Tryz.growI i0 z a7 Z (by omega) A 0 0 n [] w (by omega) (by omega) (by rw[a3];omega) (by omega) (by simp) (fun _=>rfl) (fun a _ j v hj=>by simp at hj)).mono ?_;rintro ex w' ⟨rfl,rfl⟩;have a1:=grownCap_ge w (0+n) 0 3;have a2:=grownCap_le_maxLen w (0+n) 0 3 (by unfold maxLen;omega);obtain⟨g',hg⟩:=JS (x:=.l []) (prot:=prot) (w:=w) (w':=w.drew.alloc (.cells ((#[]:Array Value)++Builtin.zeroCells z.cells (0+n - 0)++Builtin.zeroCells z.cells (grownCap w (0+n) 0 3 - (0+n))) 3)) U V
    ⟨rfl,rfl,rfl,by simp,fun k hk=>Below.heap_alloc w.drew _ k hk⟩ (v:=.slice (some ⟨w.heap.size,0,none⟩) 0 (grownCap w (0+n) 0 3)) ⟨rfl,.inr ⟨w.heap.size,_,_,rfl,g8 _,(by letI:Low:=yO;exact fw w.drew _),y5 _,a2,(by simp only[i9] at a1;simp[size_zeroCells,a4];omega),rfl⟩⟩
   exact⟨_,g',rfl,hg⟩
 ·cases ho
theorem aea(ys:List Int)(hs:ys.Pairwise (· <= ·)):(∀j,j<ys.length->Lib.keeps ys.toArray j=true)↔ys.Nodup:=by
 have U:∀i j (hi:i<ys.length) (J:j<ys.length),i<=j->ys[i]<=ys[j]:=by
  intro i j hi J h;rcases A6 i j with h | h
  ·exact t9.1 hs i j hi J h
  ·have:i=j:=by omega
   subst this;exact F8 _
 have hk:∀j (J:j<ys.length),j≠0->(Lib.keeps ys.toArray j=true↔ys[j]≠ys[j - 1]):=by
  intro j J O;have V:j - 1<ys.length:=by omega
  simp[Lib.keeps,O,getElem!_def,g6 J,g6 V]
 constructor
 ·intro h;refine t9.2 fun i j hi J Y=>?_
  have h1:=(hk j J (by omega)).1 (h j J);have Z:=U i (j - 1) hi (by omega) (by omega);have h3:=U (j - 1) j (by omega) J (by omega);omega
 ·intro h j J;by_cases O:j=0
  ·subst O;simp[Lib.keeps]
  ·refine (hk j J O).2 ?_;have:=t9.1 h (j - 1) j (by omega) J (by omega);exact fun e=>this e.symm
theorem afY(ys:List Int)(hs:ys.Pairwise (· <= ·)):((Lib.compact ys).length=ys.length)↔ys.Nodup:=by rw[<- aea ys hs];unfold Lib.compact Lib.compactUpTo;rw[m9];have h:=List.length_filter_eq_length_iff (l:=List.range ys.length) (p:=Lib.keeps ys.toArray);rw[H7] at h;rw[h];simp
theorem Yt(xs:List Int):(Rj xs).Pairwise (· <= ·):=by have h:=List.pairwise_mergeSort (le:=fun x y:Int=>decide (x<=y)) (by intro a b c h1 J;simp only[f7] at *;omega) (by intro a b;simp only[y9,f7];omega) xs;exact h.imp fun h=>by simpa using h
theorem adM(z:D):(nM (eZ z)).rows.length=(eZ z).rows.length↔(ai z).Nodup:=by unfold nM;rw[jM];unfold eZ;rw[Uq,jM,afY _ (Yt _)];exact (List.mergeSort_perm (ai z) _).nodup_iff
set_option maxRecDepth 4096
set_option maxHeartbeats 1000000
abbrev yx:=find [abP]
abbrev yb:=[0,2,3,5,6,8,9,10,11,12,20,25,26,27,28]
def uo(N:Nat)(p:b8):b8->Out:=bc f4 yx N yb Tryz.f157 (.one (.c (.own (0,0) true 3))) [⟨sd (.sl 26),p⟩] 0
def tG(N:Nat)(p:b8):b8->Out:=bc f4 yx N yb Tryz.f157 (.one (.c (.own (0,0) true 3))) [⟨sd (.sl 26),p⟩] 2
theorem KB(N:Nat)(p:b8)(Y Z V O U J:D):(uo N p) [Y,Z,V,O,U,J] =
 bif ltI J.int U.int then nd (al J.int O.rows.length) (bif ltI (w64 (V.int+(O.rows.getD J.int.toNat [] 0:Int))) 0 then nd false (nd false (nx [Y,Z,.i (w64 (V.int+(O.rows.getD J.int.toNat [] 0:Int))),O,U,.i (w64 (J.int+1))]))
 else nx [Y,Z,.i (w64 (V.int+(O.rows.getD J.int.toNat [] 0:Int))),O,U,.i (w64 (J.int+1))])
 else ex 0 [Y,Z,V,O,U,J]:=by kernel_rfl
theorem MD(N:Nat)(p:b8)(Y x1 x2 x3 Z x5 V O U J:D):(tG N p) [Y,x1,x2,x3,Z,x5,V,O,U,J] =
 bif ltI J.int U.int then nd (al J.int O.rows.length) (nd (bq (V.rows++(O.rows.getD J.int.toNat [] 0).rows)&&true) (nx [Y,x1,x2,x3,Z,x5,.l (V.rows++(O.rows.getD J.int.toNat [] 0).rows),O,U,.i (w64 (J.int+1))]))
 else ex 2 [Y,x1,x2,x3,Z,x5,V,O,U,J]:=by kernel_rfl
theorem UV(N:Nat)(p:b8):aZ f4 yx N yb Tryz.f157 (.one (.c (.own (0,0) true 3))) [⟨sd (.sl 26),p⟩]=some (bo,
 (let J:=ba (uo N p) N [p 0,.l [],.i 0,p 0,.i (p 0:Int),.i 0]
  nd J.isSome (nd (J.code==2) (nd (leI 0 (J.pay 2).int&&leI (J.pay 2).int 1000000000) ((let O:=ba (tG N p) N [J.pay 0,J.pay 1,J.pay 2,J.pay 3,J.pay 4,J.pay 5,.l [],J.pay 0,.i (J.pay 0:Int),.i 0]
  nd O.isSome (nd (O.code==4) (some (1,[O.pay 6]))))))))):=by kernel_rfl
def Cd(x:D):D:=.l ((x.rows.getD 0 [] 0).rows++(x.rows.getD 1 [] 0).rows)
def MV(x:D):Bool:=x.rows.length==2&&(leI (x.rows.getD 0 [] 0) 100000000&&leI (x.rows.getD 1 [] 0) 100000000)
theorem qk{L:b8->Out}{n:Nat}{p q:b8}(h:L p=nx q):ba L (n+1) p=ba L n q:=by show (match L p with | some (0,p')=>ba L n p' | o=>o)=_;rw[h];rfl
theorem kN{L:b8->Out}{n c:Nat}{p q:b8}(h:L p=some (c+1,q)):ba L (n+1) p=some (c+1,q):=by show (match L p with | some (0,p')=>ba L n p' | o=>o)=_;rw[h];rfl
def Qj:Ent:=(157,e1 (sd (.sl 26)) fun p=>(⟨.one (.c (.own (0,0) true 3)),[Cd (p 0)]⟩,MV (p 0)))
theorem Xz:aw f4 Qj:=ck fun p h=>aq (N:=3) (ks:=yb) (ap (fC ⟨aej,fN⟩)) Tryz.func157 fun hw=>by
 rw[UV];have h:MV (gd p 0)=true:=h;unfold MV at h;simp only[a9,leI,f7,p6] at h;obtain⟨hl,h0,h1⟩:=h;have Y:∀k,k<(gd p 0).rows.length->((gd ((gd p 0).rows.getD k []) 0).rows.length:Int)<=100000000:=fun k hk=>by
  have:k=0\/k=1:=by omega
  rcases this with rfl | rfl <;> assumption
 have s0:∀(k:Nat) (s:Int),k<(gd p 0).rows.length->0<=s->s<=100000000->uo 3 p [gd p 0,.l [],.i s,gd p 0,.i ((gd p 0).rows.length:Int),.i (k:Int)]=nx [gd p 0,.l [],.i (s+((gd ((gd p 0).rows.getD k []) 0).rows.length:Int)),gd p 0,.i ((gd p 0).rows.length:Int),.i ((k+1:Nat):Int)]:=fun k s hk a0 a1=>by have:=Y k hk;rw[KB];simp only[aE,cy hk,bn hk,g4];rw[br (by omega) (by omega),gh (by omega),f5,aF hk (by omega)]
 have Z:∀(k:Nat) (U O J V:D) (rs:List b8),k<(gd p 0).rows.length->rs.length<=100000000->tG 3 p [gd p 0,.l [],U,O,J,V,.l rs,gd p 0,.i ((gd p 0).rows.length:Int),.i (k:Int)]=nx [gd p 0,.l [],U,O,J,V,.l (rs++(gd ((gd p 0).rows.getD k []) 0).rows),gd p 0,.i ((gd p 0).rows.length:Int),.i ((k+1:Nat):Int)]:=fun k U O J V rs hk a2=>by have:=Y k hk;rw[MD];simp only[aE,bp,cy hk,bn hk,g4];rw[bL (by rw[i5];omega),aF hk (by omega)];rfl
 have e0:ba (uo 3 p) 3 [gd p 0,.l [],.i 0,gd p 0,.i ((gd p 0).rows.length:Int),.i 0]=some (2,[gd p 0,.l [],.i (0+((gd ((gd p 0).rows.getD 0 []) 0).rows.length:Int)+((gd ((gd p 0).rows.getD 1 []) 0).rows.length:Int)),gd p 0,.i ((gd p 0).rows.length:Int),.i ((gd p 0).rows.length:Int)]):=by
  refine Eq.trans (qk (n:=2) (s0 0 0 (by omega) (by omega) (by omega))) (Eq.trans (qk (n:=1) (s0 1 _ (by omega) (by omega) (by omega))) ?_);have e:((1+1:Nat):Int)=((gd p 0).rows.length:Int):=by omega
  rw[e];refine kN (c:=1) ?_;rw[KB];simp only[aE,bF]
 have e2:∀(U O J V:D),ba (tG 3 p) 3 [gd p 0,.l [],U,O,J,V,.l [],gd p 0,.i ((gd p 0).rows.length:Int),.i 0]=some (4,[gd p 0,.l [],U,O,J,V,.l ([]++(gd ((gd p 0).rows.getD 0 []) 0).rows++(gd ((gd p 0).rows.getD 1 []) 0).rows),gd p 0,.i ((gd p 0).rows.length:Int),.i ((gd p 0).rows.length:Int)]):=fun U O J V=>by
  refine Eq.trans (qk (n:=2) (Z 0 U O J V [] (by omega) (by simp))) (Eq.trans (qk (n:=1) (Z 1 U O J V _ (by omega) (by have:=Y 0 (by omega);rw[C7];omega))) ?_);have e:((1+1:Nat):Int)=((gd p 0).rows.length:Int):=by omega
  rw[e];refine kN (c:=3) ?_;rw[MD];simp only[aE,bF]
 refine congrArg (fun x=>some (bo,x)) ?_;simp only[e0,nd,f8,f5,w7,Out.code,Out.pay,w3,aL,aJ,Nat.reduceBEq,Nat.reduceAdd,aE,gX,so,bp,l8,w5,n8];rw[bb (by omega),bb (by omega)];simp only[e2,nd,f8,f5,w7,Out.code,Out.pay,w3,aL,aJ,Nat.reduceBEq,Nat.reduceAdd,aE,gX,so,bp,l8,w5,n8,v6];rw[C7];rfl
abbrev Ol:=find [KE,xF,pA,lM,Ks,uw,nS,afC,ais,Qj,ail,oL,aaB,JK,aag,Uo]
abbrev Of:=[0,1,2,3,4,55,65,75]
def WX(N:Nat)(p:b8):Out:=nd (leI (p 3) 1000000000&&leI (p 5) 1000000000) (ob (leI (ii (sub p 0 9)) 60))
def Vf(N:Nat)(p:b8):Out:=bif (nM (.l (eZ (.l ((aB (p 5)).rows++(Cd (.l [[p 6],[p 7]])).rows))).rows):Int)==(eZ (.l ((aB (p 5)).rows++(Cd (.l [[p 6],[p 7]])).rows)):Int) then (WX N p) else ob false
def Xr(N:Nat)(p:b8):Out:=nd (leI (eZ (.l ((aB (p 5)).rows++(Cd (.l [[p 6],[p 7]])).rows))) 1000000000) (Vf N p)
def WN(N:Nat)(p:b8):Out:=nd (leI (eZ (.l ((aB (p 5)).rows++(Cd (.l [[p 6],[p 7]])).rows))) 1000000000) (Xr N p)
def Ig(N:Nat)(p:b8):Out:=nd (leI (((aB (p 5)).rows++(Cd (.l [[p 6],[p 7]])).rows).length:Int) 1000000000) (WN N p)
def Vs(N:Nat)(p:b8):Out:=nd (bq ((aB (p 5)).rows++(Cd (.l [[p 6],[p 7]])).rows)&&true) (Ig N p)
def HE(N:Nat)(p:b8):Out:=bif dK (fun J=>rm (.l [[.l [sub p 0 9],.l [[Cd (.l [[p 6],[p 7]])]]]]) (sub J 0 4)) (p 4) then ob false else nd (leI (p 5) 1000000000) (Vs N p)
def Hv(N:Nat)(p:b8):Out:=bif dK (fun J=>rn (.l [[.l [sub p 0 9]]]) (sub J 0 2)) (p 3) then ob false else nd (MV (.l [[p 6],[p 7]])) (HE N p)
def GM(N:Nat)(p:b8):Out:=bif dK (fun J=>ru (.l [[.l [sub p 0 9]]]) (sub J 0 2)) (p 2) then ob false else (Hv N p)
def HN(N:Nat)(p:b8):Out:=bif !(fM (p 7)) then ob false else bif !(inB (p 8).int 0 1000000) then ob false else (GM N p)
def BG(N:Nat)(p:b8):Out:=bif !(lZ (sub p 0 9)) then ob false else bif !(fM (p 6)) then ob false else (HN N p)
def CB(N:Nat)(p:b8):Out:=bif !(aR (p 4)) then ob false else nd (leI (p 5) 1000000000) (BG N p)
def Dl(N:Nat)(p:b8):Out:=bif !(aV (p 2)) then ob false else bif !(aN (p 3)) then ob false else (CB N p)
def tf(N:Nat)(p:b8):Out:=bif !(inB (p 0).int (0) (3)) then ob false else bif !(aV (p 1)) then ob false else (Dl N p)
theorem Sq(N:Nat)(p:b8):aZ f4 Ol N Of Tryz.f43 rb [⟨ag aK,p⟩]=some (bo,(tf N p)):=by kernel_rfl
def vAt(z:D)(i:Nat):Int:=(z.rows.getD i [] 0).int
theorem rN(z:D)(i:Nat)(h:i<(ai z).length):(ai z)[i]=vAt z i:=by
 have J:i<z.rows.length:=by rwa [bR] at h
 have:=cP z i J;rw[g6 h] at this;injection this
theorem gx(z:D)(x:Int):aA z x=true↔x∈ai z:=by
 unfold aA dK;simp only[B8,m0,p6];constructor
 ·rintro⟨k,hk,rfl⟩;have J:k<(ai z).length:=by rwa [bR]
  exact H8.2 ⟨k,J,rN z k J⟩
 ·intro h;obtain⟨k,hk,rfl⟩:=n9 h;exact⟨k,by rwa [bR] at hk,rN z k hk⟩
theorem akQ{z:D}(h:fM z=true):∀i,i<z.rows.length->(i:Int)+1<=vAt z i/\vAt z i<=60/\∀j,j<i->vAt z j<vAt z i:=by
 unfold fM at h;rw[i6] at h;intro i
 induction i with
 | zero =>intro hi;have:=h 0 (m0.2 hi);simp only[ll,inB,a9,f7] at this;refine⟨?_,?_,fun j J=>by omega⟩ <;> unfold vAt <;> omega
 | succ i O =>
  intro hi;obtain⟨h1,V,U⟩:=O (by omega);have:=h (i+1) (m0.2 hi);simp only[ll,inB,leI,a9,f7,m6,y6] at this;unfold vAt at *;refine⟨by omega,by omega,fun j J=>?_⟩;rcases A6 j i with hj' | hj'
  ·have:=U j hj';omega
  ·have:j=i:=by omega
   subst this;omega
theorem abU{z:D}(h:fM z=true):z.rows.length<=60:=by
 rcases C4 z.rows.length with h0 | h0
 ·omega
 ·have:=akQ h (z.rows.length - 1) (by omega);omega
theorem Fd{z:D}(h:fM z=true):(ai z).Nodup:=by
 refine t9.2 fun i j hi O J=>?_
 rw[rN,rN];have:=(akQ h j (by rwa [bR] at O)).2.2 i J;omega
def dM(p:b8):D:=.l ((aB (p 5)).rows++((p 6).rows++(p 7).rows))
theorem YT(p:b8):ai (dM p)=ai (aB (p 5))++(ai (p 6)++ai (p 7)):=by show List.map _ (_++(_++_))=_;rw[u9,u9];rfl
theorem akD(z:D)(i:Nat):vAt (aB z) i=vAt z i:=by unfold vAt aB;show (((z.rows.map fun r => [r 0]).getD i []) 0).int=_;rw[f9,f9,u6];cases z.rows[i]? <;> rfl
theorem JE(z:D):(aB z).rows.length=z.rows.length:=by simp[aB,D.rows]
def lq(p:b8):Bool:=((List.range (p 5).rows.length).all fun k => !aA (p 6) (vAt (p 5) k) && !aA (p 7) (vAt (p 5) k))&&((List.range (p 6).rows.length).all fun k => !aA (p 7) (vAt (p 6) k))
theorem acs(p:b8)(h5:fM (aB (p 5))=true)(h6:fM (p 6)=true)(h7:fM (p 7)=true):((nM (eZ (dM p))).rows.length==(eZ (dM p)).rows.length)=lq p:=by
 rw[p7,p6,adM,YT];have e:lq p=true↔(∀k,k<(p 5).rows.length->vAt (p 5) k ∉ ai (p 6)/\vAt (p 5) k ∉ ai (p 7))/\(∀k,k<(p 6).rows.length->vAt (p 6) k ∉ ai (p 7)):=by
  have hn:∀z x,(!aA z x)=true↔x ∉ ai z:=fun z x=>by rw[<- gx];cases aA z x <;> simp
  unfold lq;simp only[a9,i6,m0,hn]
 rw[e,J7,J7];have O:∀(z:D) (Q:Int->Prop),(∀a∈ai z,Q a)↔∀k,k<z.rows.length->Q (vAt z k):=fun z Q=>by
  constructor
  ·intro h k hk;have U:k<(ai z).length:=by rwa [bR]
   have:=h _ (p9 U)
   rwa [rN] at this
  ·intro h a ha;obtain⟨k,hk,rfl⟩:=n9 ha;rw[rN];exact h k (by rwa [bR] at hk)
 rw[O (aB (p 5)),O (p 6),JE];simp only[akD];constructor
 ·rintro⟨_,⟨_,_,Z⟩,V⟩;exact⟨fun k hk=>⟨fun h=>V k hk _ (m7.2 (.inl h)) rfl,fun h=>V k hk _ (m7.2 (.inr h)) rfl⟩,fun k hk h=>Z k hk _ h rfl⟩
 ·rintro⟨h1,Y⟩;refine⟨Fd h5,⟨Fd h6,Fd h7,fun k hk b J e=>Y k hk (e▸J)⟩,fun k hk b J e=>?_⟩;subst e;rcases m7.1 J with J | J
  ·exact (h1 k hk).1 J
  ·exact (h1 k hk).2 J
theorem xj{r:b8}(J:0<=(r 0).int)(h1:(r 0).int<=999):ar (dX r)=true:=by show (decide ((r 0).int>=0)&&(decide ((r 0).int<w64 ((r 0).int+1))&&decide (w64 ((r 0).int+1)<=1000)))=true;rw[br (by omega) (by omega)];simp only[a9,f7];omega
theorem GP{p:b8}{k:Nat}(hz:aR (p 4)=true):gf p k=(AF p k&&(!aA (p 6) (vAt (p 5) k) && !aA (p 7) (vAt (p 5) k))):=by
 unfold gf AF vAt;cases hw:aO (p 5 k 1) with
 | false=>rfl
 | true =>
  rw[s8,s8]
  congr 1
  rw[p7,i6,i6];refine forall_congr' fun j=>forall_congr' fun O=>?_
  unfold aO at hw;simp only[a9,i6] at hw;have J:=hw.2 j O;simp only[fL,inB,a9,f7] at J;rw[FH hz (xj (by omega) (by omega))]
def XX(p:b8):Bool:=inB (p 0).int 0 3&&(aV (p 1)&&(aV (p 2)&&(aN (p 3)&&(aR (p 4)&&(lZ p&&(fM (p 6)&&(fM (p 7)&&(inB (p 8).int 0 1000000&&(cx p 2 0 nX&&(cx p 3 2 jY&&(cx p 4 4 hJ&&(lq p&&leI (ii p) 60))))))))))))
theorem MI{p:b8}(hz:aR (p 4)=true):fG p=true↔lZ p=true/\∀k,k<(p 5).rows.length->(!aA (p 6) (vAt (p 5) k) && !aA (p 7) (vAt (p 5) k))=true:=by
 unfold fG lZ fM;rw[JE];simp only[a9,i6,m0];have hs:∀k,eS p k=true↔(AF p k=true/\ll (aB (p 5)) k=true)/\(!aA (p 6) (vAt (p 5) k) && !aA (p 7) (vAt (p 5) k))=true:=by
  intro k;have hv:∀j,(aB (p 5) j 0).int=(p 5 j 0).int:=fun j=>akD (p 5) j
  cases k with
  | zero =>
   simp only[eS,ll,GP hz,hv,a9];constructor
   ·rintro⟨a,b,c⟩;exact⟨⟨b,a⟩,c⟩
   ·rintro⟨⟨b,a⟩,c⟩;exact⟨a,b,c⟩
  | succ k =>
   simp only[eS,ll,GP hz,hv,a9];constructor
   ·rintro⟨a,r,b,c⟩;exact⟨⟨b,a,r⟩,c⟩
   ·rintro⟨⟨b,a,r⟩,c⟩;exact⟨a,r,b,c⟩
 simp only[hs,a9];constructor
 ·intro h;exact⟨⟨fun k hk=>(h k hk).1.1,fun k hk=>(h k hk).1.2⟩,fun k hk=>(h k hk).2⟩
 ·rintro⟨⟨h1,J⟩,O⟩ k hk;exact⟨⟨h1 k hk,J k hk⟩,O k hk⟩
theorem Zb(p:b8):XX p=aY p:=by
 rw[p7];have hl:∀ {z:D},fM z=true->leI z 60=true:=fun h=>by have:=abU h;simp only[leI,f7];omega
 have Z:lZ p=true->leI (p 5) 60=true:=fun h=>by
  have h':fM (aB (p 5))=true:=by unfold lZ at h;simp only[a9] at h;exact h.2
  have:=hl h'
  rwa [JE] at this
 have h6:cx p 6 6 gy=true↔((List.range (p 6).rows.length).all fun k => !aA (p 7) (vAt (p 6) k))=true:=Iff.rfl;have b3:lq p=true↔(∀k,k<(p 5).rows.length->(!aA (p 6) (vAt (p 5) k) && !aA (p 7) (vAt (p 5) k))=true)/\cx p 6 6 gy=true:=by rw[h6];unfold lq;rw[a9,i6];simp only[m0]
 have b1:ep p=true↔fG p=true/\leI (ii p) 60=true:=by unfold ep ii;rw[a9]
 unfold XX aY;simp only[a9,b3,b1];constructor
 ·rintro⟨a0,a1,a2,a3,J,U,V,O,Y,b0,b2,b4,⟨c1,c2⟩,d⟩;exact⟨a0,a1,a2,a3,J,Y,Z U,hl V,hl O,V,O,b0,b2,b4,c2,(MI J).2 ⟨U,fun k hk=>by simpa using c1 k hk⟩,d⟩
 ·rintro⟨a0,a1,a2,a3,J,Y,_,_,_,V,O,b0,b2,b4,c2,hs,d⟩;obtain⟨U,c1⟩:=(MI J).1 hs;exact⟨a0,a1,a2,a3,J,U,V,O,Y,b0,b2,b4,⟨fun k hk=>by simpa using c1 k hk,c2⟩,d⟩
theorem yw{z:D}{q:b8}(hz:aV z=true)(J:ar q=true):ca z q=ax z q:=by unfold ax;rw[hz,J];rfl
theorem Rc{z:D}{k:Nat}(hz:aV z=true)(hk:k<z.rows.length):ar (sub (z.rows.getD k []) 0 2)=true:=by
 unfold aV at hz;simp only[a9,i6,m0] at hz;have:=hz.1 k hk;cases k with
 | zero=>exact this
 | succ k=>simp only[fH,a9] at this;exact this.1
theorem ado{z:D}{k:Nat}(hz:aN z=true)(hk:k<z.rows.length):0<=(z.rows.getD k [] 0).int/\(z.rows.getD k [] 0).int<=999:=by
 unfold aN at hz;simp only[a9,i6,m0] at hz;have:=hz.1 k hk;cases k with
 | zero=>simp only[storeAt,inB,a9,f7] at this;omega
 | succ k=>simp only[storeAt,inB,a9,f7] at this;omega
theorem afn{z:D}{k:Nat}(hz:aR z=true)(hk:k<z.rows.length):ar [z.rows.getD k [] 1,z.rows.getD k [] 2]=true:=by unfold aR at hz;simp only[a9,i6,m0] at hz;have:=hz.1 k hk;simp only[kP,a9] at this;exact this.2.1
theorem Lu{C:b8->Bool}{z:D}{A:Nat->Bool}(h:∀k,k<z.rows.length->C (z.rows.getD k []) = !A k):dK C z = !(List.range z.rows.length).all A:=by
 unfold dK;rw[p7];simp only[B8,m0,m6,<- D6,i6];constructor
 ·rintro⟨k,hk,O⟩ ha;rw[h k hk,ha k hk] at O;cases O
 ·intro hn;refine Classical.byContradiction fun J=>hn fun k hk=>?_
  cases U:A k with
  | true=>rfl
  | false=>exact absurd ⟨k,hk,by rw[h k hk,U];rfl⟩ J
theorem Zw(a b:List b8)(x:Int):aA (.l (a++b)) x=(aA (.l a) x||aA (.l b) x):=by have e:ai (.l (a++b))=ai (.l a)++ai (.l b):=u9;rw[p7,y9,gx,gx,gx,e,m7]
theorem Iq(z:D)(x:Int):aA (.l z.rows) x=aA z x:=rfl
theorem ajE(p:b8)(h1:aV (p 1)=true)(J:aV (p 2)=true):dK (fun O=>ru (.l [[.l [sub p 0 9]]]) (sub O 0 2)) (p 2) = !(cx p 2 0 nX):=by
 refine Lu fun k hk=>?_
 show (!(ca (p 1) (sub (p 2 k) 0 2)))=_;rw[yw h1 (Rc J hk)];rfl
theorem ajc(p:b8)(h1:aV (p 1)=true)(J:aN (p 3)=true):dK (fun O=>rn (.l [[.l [sub p 0 9]]]) (sub O 0 2)) (p 3) = !(cx p 3 2 jY):=by
 refine Lu fun k hk=>?_
 show (!(ca (p 1) (dX (p 3 k))))=_;have:=ado J hk;rw[yw h1 (xj this.1 this.2)];rfl
theorem ajQ(p:b8)(h1:aV (p 1)=true)(J:aR (p 4)=true):dK (fun O=>rm (.l [[.l [sub p 0 9],.l [[Cd (.l [[p 6],[p 7]])]]]]) (sub O 0 4)) (p 4) = !(cx p 4 4 hJ):=by
 refine Lu fun k hk=>?_
 show (bif !(ca (p 1) [p 4 k 1,p 4 k 2]) then true else aA (.l ((p 6).rows++(p 7).rows)) (p 4 k 0).int)=_;rw[yw h1 (afn J hk),Zw,Iq,Iq];unfold hJ;cases ax (p 1) [p 4 k 1,p 4 k 2] <;> cases aA (p 6) (p 4 k 0).int <;> cases aA (p 7) (p 4 k 0).int <;> rfl
def bE(p:b8):Bool:=leI (p 3) 100000000&&(leI (p 5) 100000000&&(leI (p 6) 100000000&&leI (p 7) 100000000))
theorem Mb{a c g:Bool}{x:Out}(J:c = !a)(h:a=true->x=ob g):(bif c then ob false else x)=ob (a&&g):=by subst J;exact eb h
def lS:Ent:=(43,e1 (ag aK) fun p=>(⟨rb,[.b (aY p)]⟩,bE p))
theorem lc:aw f4 lS:=ck fun p h=>aq (N:=0) (ks:=Of) (ap (fC ⟨SX,fC ⟨yY,fC ⟨oc,fC ⟨kG,fC ⟨Sa,fC ⟨vY,fC ⟨jS,fC ⟨ahn,fC ⟨agX,fC ⟨Xz,fC ⟨afz,fC ⟨lP,fC ⟨acH,fC ⟨Gs,fC ⟨adE,fC ⟨Rk,fN⟩⟩⟩⟩⟩⟩⟩⟩⟩⟩⟩⟩⟩⟩⟩⟩)) Tryz.func43 fun hw=>by
 rw[Sq];have h:bE p=true:=h;unfold bE at h;simp only[a9,leI,f7] at h;obtain⟨h3,h5,h6,h7⟩:=h;refine congrArg (fun x=>some (bo,x)) ?_;show tf 0 p=ob (aY p);have O:leI (p 5) 1000000000=true:=bb (by omega);have a0:(dM p).rows.length=(p 5).rows.length+((p 6).rows.length+(p 7).rows.length):=by show ((aB (p 5)).rows++((p 6).rows++(p 7).rows)).length=_;rw[i5,i5,JE]
 have J:(eZ (dM p)).rows.length=(dM p).rows.length:=by rw[eZ,jM,yd,bR]
 rw[<- Zb];unfold tf Dl XX;refine eb fun _=>eb fun U=>eb fun a2=>eb fun a3=>?_
 unfold CB;refine eb fun Z=>?_
 rw[O,aP];unfold BG;refine eb (a:=lZ p) fun V=>eb fun a6=>?_
 unfold HN;refine eb fun a7=>eb fun _=>?_
 unfold GM;refine Mb (ajE p U a2) fun _=>?_
 unfold Hv;refine Mb (ajc p U a3) fun _=>?_
 have Y:MV (.l [[p 6],[p 7]])=true:=by show (true&&(leI (p 6) 100000000&&leI (p 7) 100000000))=true;rw[bb (by omega),bb (by omega)];rfl
 rw[Y,aP];unfold HE;refine Mb (ajQ p U Z) fun _=>?_
 rw[O,aP];unfold lZ at V;simp only[a9] at V;show nd (bq (dM p).rows&&true) (Ig 0 p)=_;rw[bL (by omega)];show nd (leI (dM p) 1000000000) (nd (leI (eZ (dM p)) 1000000000) (nd (leI (eZ (dM p)) 1000000000) (bif (nM (eZ (dM p)):Int)==(eZ (dM p):Int) then (nd (leI (p 3) 1000000000&&leI (p 5) 1000000000) (ob (leI (ii p) 60))) else ob false)))=_;rw[J,bb (by omega),aP,aP,aP,bb (by omega),O,v6,aP,<- J];have e:=acs p V.2 a6 a7;rw[<- e];have e':((nM (eZ (dM p)):Int)==(eZ (dM p):Int))=((nM (eZ (dM p))).rows.length==(eZ (dM p)).rows.length):=by rw[p7,p6,p6];omega
 rw[e'];cases (nM (eZ (dM p))).rows.length==(eZ (dM p)).rows.length <;> rfl
abbrev CY:=find [DJ]
abbrev CJ:=[0,1,2,3]
theorem Lq(N:Nat)(p q:b8):aZ f4 CY N CJ Tryz.f222 rb [⟨ag ay,p⟩,⟨.one (.c (.cptr [si,si] 0)),q⟩]=some (bo,
 ob (cz (sub ((q 0).rows.getD 0 []) 0 2) (sub p 0 2))):=by kernel_rfl
def ot(p q:b8):Bool:=
 cz (sub ((q 0).rows.getD 0 []) 0 2) (sub p 0 2)
def tX:Ent:=(222,e2 (ag ay) (.one (.c (.cptr [si,si] 0))) fun p q=>(⟨rb,[.b (ot p [q 0])]⟩,true))
theorem wQ:aw f4 tX:=bj fun p q h=>aq (N:=0) (ks:=CJ) (ap (fC ⟨AZ,fN⟩)) Tryz.func222 fun hw=>by
 rw[Lq]
 try simp only[dd,de,db]
 rfl
abbrev YA:=find [tX]
abbrev XF:=[0,1,4,5,7,8,9,16]
def CS(N:Nat)(p q:b8):b8->Out:=bc f4 YA N XF Tryz.f207 ri [⟨sd (.sl 41),p⟩,⟨.one (.c (.fn 222 [.cptr [si,si] 0])),q⟩] 0
theorem abq(N:Nat)(p q:b8)(O U Y V J:D):(CS N p q) [O,U,Y,V,J] =
 bif ltI J.int V.int then nd (al J.int O.rows.length) (bif ot (sub (O.rows.getD J.int.toNat []) 0 2) [U.rows.getD 0 [] 0] then some (1,[J])
 else nx [O,U,Y,V,.i (w64 (J.int+1))])
 else ex 0 [O,U,Y,V,J]:=by kernel_rfl
theorem aff(N:Nat)(p q:b8):aZ f4 YA N XF Tryz.f207 ri [⟨sd (.sl 41),p⟩,⟨.one (.c (.fn 222 [.cptr [si,si] 0])),q⟩]=some (bo,
 (let J:=ba (CS N p q) N [p 0,q 0,.i 0,.i (p 0:Int),.i 0]
  nd J.isSome (bif J.code==1 then some (1,J.pay)
  else nd (J.code==2) (oi (-1))))):=by kernel_rfl
def tQ(c:D)(r:b8):Bool:=ot r [c.rows.getD 0 [] 0]
def agV:Ent:=(207,e2 (sd (.sl 41)) (.one (.c (.fn 222 [.cptr [si,si] 0]))) fun p q=>(⟨ri,[.i (ixF (fun k=>tQ (q 0) (sub ((p 0).rows.getD k []) 0 2)) 0 (p 0).rows.length)]⟩,true))
theorem aez:aw f4 agV:=bj fun p q h=>aq (N:=(p 0).rows.length+1) (ks:=XF) (ap (fC ⟨wQ,fN⟩)) Tryz.func207 fun hw=>by
 rw[aff];have U:=dY (hw ⟨sd (.sl 41),p⟩ (by simp));have e:=fK (L:=CS ((p 0).rows.length+1) p q) (fun k => [p 0,q 0,.i 0,.i (p 0:Int),.i (k:Int)]) (p 0).rows.length (fun k=>tQ (q 0) (sub (p 0 k) 0 2)) [p 0,q 0,.i 0,.i (p 0:Int),.i (p 0:Int)] (fun k hk=>?_) ?_ (p 0).rows.length 0 ((p 0).rows.length+1) (by omega) (by omega)
 ·simp only[g9] at e;rw[e];have J:=fx (fun k=>tQ (q 0) (sub (p 0 k) 0 2)) (p 0).rows.length 0;cases O:decide (ixF (fun k=>tQ (q 0) (sub (p 0 k) 0 2)) 0 (p 0).rows.length>=0)
  ·rw[J O];rfl
  ·rfl
 ·show CS _ p q [_,_,_,_,.i (k:Int)]=_;rw[abq];simp only[aE,cy hk,bn hk,aF hk U,g4];unfold tQ;cases ot (sub (p 0 k) 0 2) [q 0 0 0] <;> rfl
 ·show CS _ p q [_,_,_,.i (p 0:Int),.i (p 0:Int)]=_;rw[abq];simp only[aE,bF]
abbrev afN:=find [agV,tX]
abbrev aeI:=[0,1,4]
theorem ags(N:Nat)(p q:b8):aZ f4 afN N aeI Tryz.f106 rb [⟨sd (.sl 41),p⟩,⟨.one (.c (.fn 222 [.cptr [si,si] 0])),q⟩]=some (bo,
 ob (leI 0 (ixF (fun k=>tQ (.l [[((q 0).rows.getD 0 []) 0]]) (sub ((p 0).rows.getD k []) 0 2)) 0 (p 0).rows.length))):=by kernel_rfl
def ahr:Ent:=(106,e2 (sd (.sl 41)) (.one (.c (.fn 222 [.cptr [si,si] 0]))) fun p q=>(⟨rb,[.b (dK (fun J=>tQ (q 0) (sub J 0 2)) (p 0))]⟩,true))
theorem afd:aw f4 ahr:=bj fun p q h=>aq (N:=0) (ks:=aeI) (ap (fC ⟨aez,fC ⟨wQ,fN⟩⟩)) Tryz.func106 fun hw=>by rw[ags];refine congrArg (fun x=>some (bo,ob x)) ?_;exact (iD (fun k=>tQ (q 0) (sub (p 0 k) 0 2)) (p 0).rows.length 0).trans (by simp only[i9];rfl)
abbrev KM:=find [ahr]
abbrev Mf:=[0,1,3,4]
theorem Ti(N:Nat)(p q:b8):aZ f4 KM N Mf Tryz.f131 rb [⟨sd (.sl 41),p⟩,⟨ag ay,q⟩]=some (bo,
 ob (dK (fun J=>tQ (.l [[.l [sub q 0 2]]]) (sub J 0 2)) (p 0))):=by kernel_rfl
def gm(z:D)(q:b8):Bool:=(List.range z.rows.length).any fun k=>cz q (sub (z.rows.getD k []) 0 2)
def Bv:Ent:=(131,e2 (sd (.sl 41)) (ag ay) fun p q=>(⟨rb,[.b (gm (p 0) q)]⟩,true))
theorem DA:aw f4 Bv:=bj fun p q h=>aq (N:=0) (ks:=Mf) (ap (fC ⟨afd,fN⟩)) Tryz.func131 fun hw=>by rw[Ti];rfl
abbrev vX:=find [kX]
abbrev xd:=[0,1,3,4,5,7,11,23]
def kD(N:Nat)(p q:b8):b8->Out:=bc f4 vX N xd Tryz.f124 rb [⟨sd (.sl 41),p⟩,⟨ag ay,q⟩] 0
def wy(N:Nat)(p q:b8)(J Z x2 x3 Y O U V:D):List b8:= [[sub (cg (sub (J.rows.getD O.int.toNat []) 0 2) [U,V]) 0 3 2],[.i 0],[sub (cg (sub (J.rows.getD O.int.toNat []) 0 2) [U,V]) 0 3 2],[sub (cg (sub (J.rows.getD O.int.toNat []) 0 2) [U,V]) 0 3 0,sub (cg (sub (J.rows.getD O.int.toNat []) 0 2) [U,V]) 0 3 1],sub (sub (cg (sub (J.rows.getD O.int.toNat []) 0 2) [U,V]) 0 3) 0 3,sub (sub (cg (sub (J.rows.getD O.int.toNat []) 0 2) [U,V]) 0 3) 0 3,[U,V],[J.rows.getD O.int.toNat [] 0,J.rows.getD O.int.toNat [] 1],[.l [[.l J.rows,.i O.int]]],[O],[J],[J],[Z,x2],[x3],[Y],[O],[.b (ltI O.int J)],[U,V],[sub (cg (sub (J.rows.getD O.int.toNat []) 0 2) [U,V]) 0 3 0,sub (cg (sub (J.rows.getD O.int.toNat []) 0 2) [U,V]) 0 3 1]]
theorem Co(N:Nat)(p q:b8)(J Z x2 x3 Y O U V:D):(kD N p q) [J,Z,x2,x3,Y,O,U,V] =
 bif ltI O.int J then nd ((al O.int J.rows.length)&&true) (ndN 4 (((al O.int J.rows.length)&&true)&&(ec (wy N p q J Z x2 x3 Y O U V) (wy N p q J Z x2 x3 Y O U V))) (bif (sub (cg (sub (J.rows.getD O.int.toNat []) 0 2) [U,V]) 0 3 2).bool then ob true
 else nx [J,Z,x2,x3,Y,.i (w64 (O.int+1)),U,V]))
 else ex 0 [J,Z,x2,x3,Y,O,U,V]:=by kernel_rfl
theorem OG(N:Nat)(p q:b8):aZ f4 vX N xd Tryz.f124 rb [⟨sd (.sl 41),p⟩,⟨ag ay,q⟩]=some (bo,
 (let J:=ba (kD N p q) N [p 0,q 0,q 1,.i 0,.i 0,.i 0,q 0,q 1]
  nd J.isSome (bif J.code==1 then some (1,J.pay)
  else nd (J.code==2) (ob false)))):=by kernel_rfl
def jv(z:D)(q:b8):Bool:= !(List.range z.rows.length).all fun k => !uN (sub (z.rows.getD k []) 0 2) q
def mD:Ent:=(124,e2 (sd (.sl 41)) (ag ay) fun p q=>(⟨rb,[.b (jv (p 0) q)]⟩,true))
theorem mi:aw f4 mD:=bj fun p q h=>aq (N:=(p 0).rows.length+1) (ks:=xd) (ap (fC ⟨kR,fN⟩)) Tryz.func124 fun hw=>by
 rw[OG];have J:=dY (hw ⟨sd (.sl 41),p⟩ (by simp));have e:=cU (L:=kD ((p 0).rows.length+1) p q) (fun k => [p 0,q 0,q 1,.i 0,.i 0,.i (k:Int),q 0,q 1]) (p 0).rows.length (fun k => !uN (sub (p 0 k) 0 2) q) [.b true] 0 (fun k hk=>?_) ?_ (N:=(p 0).rows.length+1) (by omega)
 ·simp only[g9] at e;rw[e];unfold jv;cases (List.range (p 0).rows.length).all fun k => !uN (sub (p 0 k) 0 2) q <;> rfl
 ·show kD _ p q [_,_,_,_,_,.i (k:Int),_,_]=_;rw[Co];simp only[aE,cy hk,D2,bP hk,kg,aP,di,aF hk J,g4];have O:(sub (cg (sub (p 0 k) 0 2) [q 0,q 1]) 0 3 2).bool=uN (sub (p 0 k) 0 2) q:=Tq _ _;rw[O];cases uN (sub (p 0 k) 0 2) q <;> rfl
 ·show kD _ p q [_,_,_,_,_,.i (p 0:Int),_,_]=_;rw[Co];simp only[aE,bF]
abbrev aaZ:=find [jn,Bv]
abbrev aaT:=[0,1,2,3,4]
theorem acm(N:Nat)(p q:b8):aZ f4 aaZ N aaT Tryz.f137 rb [⟨ag aK,p⟩,⟨ag ay,q⟩]=some (bo,
 bif ca (p 1) (sub q 0 2) then ob (!(gm (p 2) (sub q 0 2)))
 else ob false):=by kernel_rfl
def qa(p q:b8):Bool:=ca (p 1) q && !gm (p 2) q
def Te:Ent:=(137,e2 (ag aK) (ag ay) fun p q=>(⟨rb,[.b (qa p q)]⟩,true))
theorem PW:aw f4 Te:=bj fun p q h=>aq (N:=0) (ks:=aaT) (ap (fC ⟨iH,fC ⟨DA,fN⟩⟩)) Tryz.func137 fun hw=>by rw[acm];show some (bo,bif ca (p 1) q then ob (!gm (p 2) q) else ob false)=_;unfold qa;cases ca (p 1) q <;> rfl
abbrev NV:=find [fR,mD]
abbrev Kl:=[0,1,2,3,4]
theorem Sp(N:Nat)(p q:b8):aZ f4 NV N Kl Tryz.f97 rb [⟨ag aK,p⟩,⟨ag ay,q⟩]=some (bo,
 bif ax (p 1) (sub q 0 2) then ob (!(jv (p 2) (sub q 0 2)))
 else ob false):=by kernel_rfl
def pd(p q:b8):Bool:=ax (p 1) q && !jv (p 2) q
theorem XI(p q:b8):cz p q=cz q p:=by unfold cz;cases ltI (p 0).int (q 1).int <;> cases ltI (q 0).int (p 1).int <;> rfl
theorem Kr{z:D}{q:b8}(hz:aV z=true)(U:ar q=true):jv z q=gm z q:=by
 unfold jv gm;rw[p7];simp only[m6,<- D6,i6,B8,m0];have O:∀k,k<z.rows.length->uN (sub (z k) 0 2) q=cz q (sub (z k) 0 2):=fun k hk=>by rw[Mv (Rc hz hk) U,XI]
 constructor
 ·intro h;refine Classical.byContradiction fun hn=>h fun k hk J=>hn ⟨k,hk,?_⟩
  rw[<- O k hk];exact J
 ·rintro⟨k,hk,J⟩ h;refine h k hk ?_;rw[O k hk];exact J
theorem RD{p q:b8}(h1:aV (p 1)=true)(O:aV (p 2)=true)(J:ar q=true):pd p q=qa p q:=by unfold pd qa;rw[Kr O J,yw h1 J]
def AV:Ent:=(97,e2 (ag aK) (ag ay) fun p q=>(⟨rb,[.b (pd p q)]⟩,true))
theorem DV:aw f4 AV:=bj fun p q h=>aq (N:=0) (ks:=Kl) (ap (fC ⟨fB,fC ⟨mi,fN⟩⟩)) Tryz.func97 fun hw=>by rw[Sp];show some (bo,bif ax (p 1) q then ob (!jv (p 2) q) else ob false)=_;unfold pd;cases ax (p 1) q <;> rfl
theorem VF{q:b8}(h:inB (q 0).int 0 999=true):ar [q 0,.i (w64 ((q 0).int+1))]=true:=by simp only[inB,a9,f7] at h;exact xj (r:=q) (by omega) (by omega)
structure anv(R O:D):Prop where
 len:R.rows.length<=60
 tx:∀i,i<R.rows.length->(R.rows.getD i [] 0).int=((i+1:Nat):Int)
 sh:∀i,i<R.rows.length->Xp (R.rows.getD i [] 4)=true
 ord:∀k,k<O.rows.length->1<=vAt O k/\vAt O k<=(R:Int)/\(R.rows.getD (vAt O k - 1).toNat [] 3).int=3
 nodup:(ai O).Nodup
 all:cnt (ang R) 0 R.rows.length=O.rows.length
def wrD(z ws:D):Nat->D
 | 0=>z
 | j+1=>Tr (wrD z ws j) (ws.rows.getD j [] 0).int (ws.rows.getD j [] 1).int
theorem FQ{z:D}(h:aO z=true){k:Nat}(hk:k<z.rows.length):inB (z.rows.getD k [] 0).int 0 999=true/\leI (-1) (z.rows.getD k [] 1).int=true:=by unfold aO at h;rw[a9] at h;have:=i6.1 h.2 k (m0.2 hk);unfold fL at this;simp only[a9] at this;refine⟨this.1,?_⟩;have h1:=this.2.1;simp only[inB,a9,f7] at h1;exact bb (by omega)
theorem HV{z:D}(h:aO z=true):z.rows.length<=60:=by unfold aO at h;rw[a9,f7] at h;omega
theorem Zf{z ws:D}(h:cl z=true)(hw:aO ws=true):∀j,j<=ws.rows.length->cl (wrD z ws j)=true
 | 0,_=>h
 | j+1,hj=>ajR (Zf h hw j (by omega)) (FQ hw (by omega)).1 _
abbrev anx(R O:D)(k:Nat):D:=R.rows.getD (vAt O k - 1).toNat [] 4
structure anJ(R O:D):Prop where
 ord:∀k,k<O.rows.length->1<=vAt O k/\vAt O k<=(R:Int)
 sh:∀k,k<O.rows.length->Xp (anx R O k)=true
 rl:R.rows.length<=60
 ol:O.rows.length<=60
theorem acM{L:b8->Out}{st:Nat->b8}{n:Nat}(C:Nat->Bool)(v:Nat->b8)(j:Nat)(h1:∀k,k<n->L (st k)=bif C k then some (1,v k) else nx (st (k+1)))(U:L (st n)=some (j+2,st n)) :
  ∀(m k N:Nat),k+m=n->m<N->ba L N (st k)=match (List.range' k m).find? C with | some i=>some (1,v i) | none=>some (j+2,st n):=by
 intro m
 induction m with
 | zero =>
  intro k N hk hN;obtain⟨N,rfl⟩:∃J,N=J+1:=⟨N - 1,by omega⟩;obtain rfl:k=n:=by omega
  exact kN (c:=j+1) U
 | succ m V =>
  intro k N hk hN;obtain⟨N,rfl⟩:∃J,N=J+1:=⟨N - 1,by omega⟩;have h:=h1 k (by omega);rw[M5,List.find?_cons];cases O:C k with
  | true =>rw[O,f8] at h;exact kN (c:=0) h
  | false =>rw[O,f5] at h;rw[qk h];exact V (k+1) N (by omega) (by omega)
def cellsOf(p:b8)(k:Nat):D:=((p 9).rows.getD k []) 3
set_option maxRecDepth 100000
set_option maxHeartbeats 4000000
open Go.RowKit Go.Lib
def afF(B:Option Nat)(n:Nat):Nat->Nat:=fun b=>if B=some b then n else 0
theorem yv{P:Program}{w:World}{e:TypeId}{row:List S}{z:D}{u:Value}{B:Option Nat}(J:bk P e=some row)(h:dg w e row z.rows u B):VD P w (afF B (z.rows.length*row.length)) (.sl e) z u:=by
 rcases h with⟨rfl,U,A,rfl⟩ | ⟨b,cap,arr,rfl,rfl,h2,h3,h4,h5,h6⟩
 ·have:=VD.sl (P:=P) (w:=w) (prot:=afF none (z.rows.length*row.length)) e z A 0 row (fun _ _=>undef) J (by rw[U];simp) (by omega) (by rw[U];intro i j hi;simp at hi) (by rw[U];intro i j s hi;simp at hi)
  rwa [show z.rows.length=0 from by rw[U];rfl] at this
 ·refine VD.sl e z _ cap row (fun i j=>arr[i*row.length+j]?.getD undef) J h2 h3 (fun i j hi Y=>?_) (fun i j s hi hs=>?_)
  ·obtain⟨v,O,V⟩:=h6 i j _ hi (g6 Y);refine⟨b,0,rfl,?_,?_⟩
   ·rw[O,i9,dx h4];exact O
   ·show _<(if some b=some b then _ else _);rw[j8 rfl,i9];have:i*row.length+row.length<=z.rows.length*row.length:=by rw[<- C8];exact v7 _ hi
    omega
  ·obtain⟨v,O,V⟩:=h6 i j s hi hs;simp only[O];exact V.vd
theorem alJ{P:Program}{w:World}{g:G}{base:Nat}{t:Tok}{xm:Bool}{e:TypeId}{row:List S}{rows:List b8}{v:Value}(Y:row.all S.flat=true)(h:dp P w g base t xm e row rows v):∃B,dg w e row rows v B/\∀b,B=some b->base<=b:=by
 rcases h with⟨Z,_,U⟩ | ⟨cap,arr,E,h1,U,⟨h3,rfl,_⟩,h4,h5,h6,h7,h8,h9,h10,h11⟩
 ·exact⟨none,.inl ⟨rfl,Z,U⟩,fun b J=>by cases J⟩
 ·refine⟨some (g.ρ t),.inr ⟨g.ρ t,cap,arr,rfl,h1,U,h3,h6,h7,fun i j s hi hs=>?_⟩,fun b J=>by injection J with J;omega⟩;obtain⟨u,V,k2⟩:=h11 i j s hi hs;have O:=i6.1 Y s (w6 hs);exact⟨u,V,(k2.vd_flat O).fv O⟩
theorem oI{w:World}{e:TypeId}{row:List S}{rows:List b8}{v:Value}{B:Option Nat}(h:dg w e row rows v B):∀b,B=some b->b<w.heap.size:=by
 rcases h with⟨rfl,_⟩ | ⟨b,cap,arr,rfl,_,_,_,h4,_⟩
 ·intro b J;cases J
 ·intro b' J;injection J with J
  subst J;exact aT h4
theorem acw{w:World}{z:D}{u:Value}{B:Option Nat}{k v:Int}(Y:dg w 108 dZ z.rows u B)(hz:cl z=true)(hk:inB k 0 999=true)(hv:leI (-1) v=true) :
  Calls f4 259 #[u,.int .i64 k,.int .i64 v] w fun ex w'=>∃U O,ex=.returned U/\Below w.heap.size w w'/\dg w' 108 dZ (Tr z k v).rows U O/\∀b,O=some b->w.heap.size<=b:=by
 have hs:=adX [⟨sd (.sl 108),[z]⟩,⟨ri,[.i k]⟩,⟨ri,[.i v]⟩] ⟨.one (.c (.own (0,0) true 108)),[Tr z k v]⟩ (by
  have h:(cl (gd [z] 0)&&inB (gd [D.i k] 0).int 0 999&&leI (-1) (gd [D.i v] 0).int)=true:=by show (cl z&&inB k 0 999&&leI (-1) v)=true;rw[hz,hk,hv];rfl
  simp only[abB,e3,n8,v6,f8,h];rfl)
 have hs:=(hs.n rfl).2 w (afF B (z.rows.length*2)) #[u,.int .i64 k,.int .i64 v] ⟨rfl,fun j t J=>?_⟩ (fun b hb=>?_)
 ·refine hs.mono ?_;rintro ex w' ⟨U,g',rfl,Z⟩;obtain⟨row,V,ho⟩:=Z.val;rw[ja] at V;injection V with V;subst V
  obtain⟨O,q1,q2⟩:=alJ rfl ho;exact⟨U,O,rfl,Z.below,q1,q2⟩
 ·match j,J with
  | 0,J =>
   injection J with J;subst J
   exact⟨u,rfl,yv ja Y⟩
  | 1,J =>
   injection J with J;subst J
   exact⟨_,rfl,VD.int .i64 (.i k)⟩
  | 2,J =>
   injection J with J;subst J
   exact⟨_,rfl,VD.int .i64 (.i v)⟩
 ·show (if B=some b then _ else 0)=0;rw[i7 (fun e=>by have:=oI Y b e;omega)]
theorem YG{w w':World}{e:TypeId}{row:List S}{rows:List b8}{v:Value}{B:Option Nat}(h:dg w e row rows v B)(J:Below w.heap.size w w'):dg w' e row rows v B:=by
 rcases h with h | ⟨b,cap,arr,h1,h2,h3,h4,h5,h6⟩
 ·exact .inl h
 ·exact .inr ⟨b,cap,arr,h1,h2,h3,h4,(J.block b (aT h5)).trans h5,h6⟩
theorem adW:bk f4 70=some dZ:=by kernel_rfl
theorem QP{w:World}{prot:Nat->Nat}{x:D}{v:Value}(h:VD f4 w prot (.sl 70) x v):∃A c,v=.slice A x.rows.length c/\x.rows.length<=c/\c<=9223372036854775807 /\
  ∀i,i<x.rows.length->∃b o,A=some ⟨b,o,none⟩/\w.cell? ⟨b,o+i*2,none⟩=some (.int .i64 (x.rows.getD i [] 0).int)/\w.cell? ⟨b,o+i*2+1,none⟩=some (.int .i64 (x.rows.getD i [] 1).int):=by
 cases h with
 | sl e d A c row u O h1 h2 V Y =>
  rw[adW] at O;injection O with O
  subst O;refine⟨A,c,rfl,h1,h2,fun i hi=>?_⟩;obtain⟨b,o,hA,Z,_⟩:=V i 0 hi (by decide);obtain⟨b',o',J,U,_⟩:=V i 1 hi (by decide);rw[hA] at J;injection J with J
  injection J with e1 e2 _
  subst e1 e2;have e0:=tM (k:=.i64) (Y i 0 _ hi rfl);have e1:=tM (k:=.i64) (Y i 1 _ hi rfl);rw[e0] at Z;rw[e1] at U;exact⟨b,o,hA,Z,U⟩
theorem LH{prot:Nat->Nat}{w:World}{q:b8}{O:Array Value}(h:ka f4 prot w [⟨sd (.sl 70),q⟩] O):∃u,O = #[u]/\VD f4 w prot (.sl 70) (q 0) u:=by
 obtain⟨u,J,hv⟩:=h.2 0 _ rfl;refine⟨u,ml h [u] rfl fun j t V h1 U=>?_,hv⟩
 match j,h1 with
 | 0,h1=>rw[U] at J;injection J with J;subst J;rfl
theorem PN{w:World}{prot:Nat->Nat}{z ws:D}{u v1:Value}{B:Option Nat}(hO:dg w 108 dZ z.rows u B)(hz:cl z=true)(hw:aO ws=true)(Z:∀a1,aI w a1 B->VD f4 a1 prot (.sl 70) ws v1) :
  Calls f4 228 #[u,v1] w fun ex w'=>∃V J,ex=.returned V/\aI w w' B/\dg w' 108 dZ (wrD z ws ws.rows.length).rows V J/\∀b,J=some b->B=some b\/w.heap.size<=b:=by
 have hl:=HV hw;obtain⟨A,c,rfl,c3,c2,_⟩:=QP (Z w (aI.refl w B));have b6:Hid _:=Z;have HO:Hid _:=hO;have HZ:Hid _:=hz;have HW:Hid _:=hw;clear Z hO hz hw;go_enter Tryz.func228,Tryz.ntmps228
 go_wp2_with fail
 go_loopw [0,9] (fun v i wr=>∃(k:Nat) (Bk:Option Nat),k<=ws.rows.length/\i=.int .i64 (k:Int)/\Hid (aI w wr B)/\Hid (dg wr 108 dZ (wrD z ws k).rows v Bk)/\Hid (∀b,Bk=some b->B=some b\/w.heap.size<=b)) (fun _ i _=>ws.rows.length - (Go.RowKit.intOf i).toNat)
 case atStart=>exact⟨0,B,by omega,rfl,aI.refl w B,HO.out,fun b Y=>.inl Y⟩
 case round =>
  obtain⟨k,Bk,hk,rfl,HC,HOk,HB⟩:=hrel;by_cases a2:k<ws.rows.length
  ·obtain⟨A',c',b4,_,_,U⟩:=QP (b6.out wr HC.out);injection b4 with e1 e2 e3;subst e1 e3;obtain⟨b,o,rfl,c0,c1⟩:=U k a2;obtain⟨w1,w2⟩:=FQ HW.out a2;have a4:=Zf HZ.out HW.out k (by omega);have a3:∀x:World,Below wr.heap.size wr x->aI w x B:=fun x hx=>HC.out.trans (aI.of_below B hx) (fun b Y=>.inl Y)
   have a6:wrD z ws (k+1)=Tr (wrD z ws k) (ws k 0).int (ws k 1).int:=rfl;generalize (ws k 0).int=kk at *;generalize (ws k 1).int=vv at *;have O:∀x:World,Below wr.heap.size wr x->Calls f4 259 #[u0,.int .i64 kk,.int .i64 vv] x fun ex w'=>∃V J,ex=.returned V/\Below x.heap.size x w'/\dg w' 108 dZ (Tr (wrD z ws k) kk vv).rows V J/\∀b,J=some b->x.heap.size<=b:=fun x hx =>acw (YG HOk.out hx) a4 w1 w2
   have a0:Hid _:=O;have b0:Hid _:=a6;have b2:Hid _:=a3;clear O a6 a3 w1 w2 a4 U
   go_wp2_with fail
   refine (a0.out _ ((Below.refl _ _).alloc (g8 _) _)).mono ?_;rintro e w' ⟨V,J,rfl,a8,a7,a5⟩;have b3:Hid _:=a8;have b5:Hid _:=a7;have b1:Hid _:=a5;clear a8 a7 a5
   go_wp2_with fail
   go_roundw
   case rel =>have hA:Below wr.heap.size wr (wr.alloc (Obj.cells #[Value.int .i64 kk,Value.int .i64 vv] 70)):=(Below.refl _ _).alloc (g8 _) _;refine⟨k+1,J,by omega,by go_num,b2.out _ (hA.trans (b3.out.mono hA.size)),by rw[b0.out];exact b5.out,fun b Y=>.inr ?_⟩;have q1:=b1.out b Y;have q2:=HC.out.size;simp at q1;omega
   case measure=>simp[Go.RowKit.intOf];omega
  ·obtain rfl:k=ws.rows.length:=by omega
   go_wp2_with fail
   go_ret
   exact⟨_,Bk,rfl,HC.out,HOk.out,HB.out⟩
def GI:Ent:=(228,e2 (sd (.sl 108)) (sd (.sl 70)) fun p q=>(⟨.tup [.agg [.any]],[wrD (p 0) (q 0) (q 0).rows.length]⟩,cl (p 0)&&aO (q 0)))
theorem PH:aw f4 GI:=bj fun p q h=>by
 have h:(cl (p 0)&&aO (q 0))=true:=h;rw[a9] at h;refine aQ.ofK rfl ⟨cN Tryz.func228 (by kernel_rfl) (by kernel_rfl),fun e x rest row J O a1 w prot u B vs hO hB a2 U a3=>?_⟩;injection J with J hre
 injection J with J hp
 injection J with J
 injection J with J
 injection J with J
 injection J with J
 subst J hre;have Z:p 0=x:=by rw[hp];rfl
 rw[ja] at O;injection O with O
 subst O;obtain⟨v1,rfl,hv⟩:=LH (U w (aI.refl w B));rw[Z] at h;have:=PN (prot:=prot) (ws:=q 0) (v1:=v1) hO h.1 h.2 (fun Y hC=>by
  obtain⟨v2,e2,a0⟩:=LH (U Y hC);have e2:v1=v2:=by have:=congrArg (fun a:Array Value=>a[0]?) e2;simpa using this
  rw[e2];exact a0)
 show Calls _ _ #[u,v1] w fun ex w'=>∃V B',ex=.returned V/\aI w w' B/\dg w' _ _ (wrD (p 0) (q 0) (q 0).rows.length).rows V B'/\_
 rw[Z];exact this
def eC(C:b8->Bool)(rows:List b8):List b8:=rows.filter fun r => !C r
structure KI(C:b8->Bool)(rows rj:List b8)(i j:Nat):Prop where
 len:rj.length=rows.length
 lt:i<j
 le:j<=rows.length
 num:i=(eC C (rows.take j)).length
 done:rj.take i=eC C (rows.take j)
 rest:∀k,j<=k->rj.getD k []=rows.getD k []
theorem lf{rows:List b8}{j:Nat}(h:j<rows.length):rows.take (j+1)=rows.take j ++ [rows.getD j []]:=by rw[G6,g6 h,f9,g6 h];rfl
theorem KI.keep{C:b8->Bool}{rows J:List b8}{i j:Nat}(h:KI C rows J i j)(O:j<rows.length)(V:C (rows.getD j [])=false):KI C rows (J.set i (rows.getD j [])) (i+1) (j+1):=by
 have hk:eC C (rows.take (j+1))=eC C (rows.take j) ++ [rows.getD j []]:=by
  rw[lf O];unfold eC;rw[C0]
  congr 1
  simp only[B0,V,w5,if_true,N5]
 have U:=h.len;have Z:=h.lt;refine⟨by simp[U],by omega,by omega,by rw[hk,i5,<- h.num];rfl,?_,fun k Y=>?_⟩
 ·rw[hk,<- h.done,lf (by simp;omega)]
  congr 1
  ·rw[List.take_set_of_le (g8 _)]
  ·rw[f9,List.getElem?_set_self (by omega)];rfl
 ·rw[f9,List.getElem?_set_ne (by omega),<- f9];exact h.rest k (by omega)
theorem KI.skip{C:b8->Bool}{rows J:List b8}{i j:Nat}(h:KI C rows J i j)(O:j<rows.length)(U:C (rows.getD j [])=true):KI C rows J i (j+1):=by
 have hk:eC C (rows.take (j+1))=eC C (rows.take j):=by rw[lf O];unfold eC;rw[C0];simp only[B0,U,l8,u4,if_false,N5,B9]
 have Y:=h.lt;exact⟨h.len,by omega,by omega,by rw[hk];exact h.num,by rw[hk];exact h.done,fun k V=>h.rest k (by omega)⟩
theorem ur{C:b8->Bool}{rows:List b8}(h:∀k,k<rows.length->C (rows.getD k [])=false):eC C rows=rows:=by unfold eC;rw[B5];intro r J;obtain⟨k,hk,rfl⟩:=n9 J;have:=h k hk;rw[f9,g6 hk] at this;simpa using this
theorem KI.start{C:b8->Bool}{rows:List b8}{J:Nat}(h:J<rows.length)(hn:∀k,k<J->C (rows.getD k [])=false)(U:C (rows.getD J [])=true):KI C rows rows J (J+1):=by
 have O:eC C (rows.take J)=rows.take J:=ur fun k hk=>by
  have hk:k<J:=by have:=hk;simp at this;omega
  rw[f9,s7,j8 hk,<- f9];exact hn k hk
 have hk:eC C (rows.take (J+1))=rows.take J:=by rw[lf h];unfold eC;rw[C0];simp only[B0,U,l8,u4,if_false,N5,B9];exact O
 exact⟨rfl,by omega,by omega,by rw[hk,s9];omega,hk.symm,fun _ _=>rfl⟩
theorem je(C:Nat->Bool):∀(n i:Nat),(ixF C i n = -1/\∀k,k<n->C (i+k)=false)\/∃k,k<n/\ixF C i n=((i+k:Nat):Int)/\C (i+k)=true/\∀J,J<k->C (i+J)=false
 | 0,i=>.inl ⟨rfl,fun k hk=>absurd hk (D5 _)⟩
 | n+1,i=>by
  cases h:C i with
  | true=>exact .inr ⟨0,by omega,by simp[ixF,h],h,fun k hk=>absurd hk (D5 _)⟩
  | false =>
   rcases je C n (i+1) with⟨e,O⟩ | ⟨k,hk,e,ht,O⟩
   ·refine .inl ⟨by simp[ixF,h,e],fun k hk=>?_⟩;cases k with
    | zero=>exact h
    | succ k=>have:=O k (by omega);rwa [show i+1+k=i+(k+1) from by omega] at this
   ·refine .inr ⟨k+1,by omega,by simp only[ixF,h];rw[show i+(k+1)=i+1+k from by omega];exact e,by rwa [show i+(k+1)=i+1+k from by omega],fun J U=>?_⟩;cases J with
    | zero=>exact h
    | succ J=>have:=O J (by omega);rwa [show i+1+J=i+(J+1) from by omega] at this
theorem Bs{P:Program}(w:World)(t e ty:TypeId)(z:Value)(ht:P.underlying t=some (.slice e))(hv:∀w,(zeroValue e).run P w=.ok z w)(h1:∀u∈z.cells.toList,u.oneCell'=true)(b o n c:Nat)(hn:0<n)(hs:0<z.cells.size)
  (hc:∀j,j<n*z.cells.size->(w.cell? ⟨b,o+j,none⟩).isSome=true) (V:∀j,j<n*z.cells.size->w.frozen? ⟨b,o+j,none⟩=false) :
  (Builtin.clear_ #[t] ty #[.slice (some ⟨b,o,none⟩) n c]).run P w=.ok (.tuple #[]) (w.setCells b o (Builtin.zeroCells z.cells n).toList):=by
 have J:(Builtin.zeroCells z.cells n).toList.length=n*z.cells.size:=by simp[size_zeroCells]
 have O:=run_storeCells_cells (P:=P) b o (Builtin.zeroCells z.cells n).toList 0 w (by rw[J];simpa using hc) (by rw[J];simpa using V) (fun u Z=>by
  obtain⟨j,U,rfl⟩:=n9 Z;rw[J] at U;have:(Builtin.zeroCells z.cells n).toList[j]'(by rw[J];exact U)=z.cells[j % z.cells.size]'(Nat.mod_lt _ hs):=by have Y:j % z.cells.size<z.cells.size:=Nat.mod_lt j hs;simp only[Builtin.zeroCells,K1,Array.toList_range,G8,L1];exact getElem!_pos z.cells _ Y
  rw[this];exact h1 _ (by simp))
 obtain⟨m,rfl⟩:∃m,n=m+1:=⟨n - 1,by omega⟩;simp only[D4] at O;simp[Builtin.clear_,run_underlying ht,hv,O]
abbrev jF(k:Nat):List S:=List.replicate k (.int .i64)
abbrev vN(k:Nat)(r:b8):List Value:=(List.range k).map fun j=>.int .i64 (r j).int
theorem YB{k j:Nat}(r:b8)(h:j<k):(vN k r)[j]?=some (.int .i64 (r j).int):=by simp[vN,h]
theorem JT{w:World}{e:TypeId}{k:Nat}{rows:List b8}{b cap:Nat}{J:Array Value}(Y:w.heap[b]?=some (.cells J e (0,0)))(hs:J.size=cap*k)(U:rows.length<=cap)(V:cap<=9223372036854775807)
  (hc:∀i j,i<rows.length->j<k->J[i*k+j]?=some (.int .i64 (rows.getD i [] j).int)):dg w e (jF k) rows (.slice (some ⟨b,0,none⟩) rows.length cap) (some b):=
 .inr ⟨b,cap,J,rfl,rfl,U,V,Y,by simpa using hs,fun i j s hi Z=>by
  obtain⟨h1,O⟩:=g5.1 Z;have h1:j<k:=by simpa using h1
  have O:S.int .i64=s:=by simpa using O
  subst O;exact⟨.int .i64 (rows.getD i [] j).int,by simpa using hc i j hi h1,rfl⟩⟩
theorem qG{w:World}{e:TypeId}{k:Nat}{rows:List b8}{u:Value}{B:Option Nat}(h:dg w e (jF k) rows u B):(B=none/\rows = []/\∃A,u=.slice A 0 0) \/
  ∃(b cap:Nat) (J:Array Value),B=some b/\u=.slice (some ⟨b,0,none⟩) rows.length cap/\rows.length<=cap/\cap<=9223372036854775807/\w.heap[b]?=some (.cells J e (0,0))/\J.size=cap*k /\
   ∀i j,i<rows.length->j<k->J[i*k+j]?=some (.int .i64 (rows.getD i [] j).int):=by
 rcases h with h | ⟨b,cap,J,h1,h2,h3,h4,h5,h6,h7⟩
 ·exact .inl h
 ·refine .inr ⟨b,cap,J,h1,h2,h3,h4,h5,by simpa using h6,fun i j hi U=>?_⟩;obtain⟨u,O,V⟩:=h7 i j (.int .i64) hi (by simp[U]);rw[show (jF k).length=k from by simp] at O;rw[O];exact congrArg some V
theorem dl{w:World}{e:TypeId}{k:Nat}{rows:List b8}{u:Value}{b:Nat}(h:dg w e (jF k) rows u (some b)){i j:Nat}(hi:i<rows.length)(J:j<k) :
  w.cell? ⟨b,i*k+j,none⟩=some (.int .i64 (rows.getD i [] j).int)/\w.frozen? ⟨b,i*k+j,none⟩=false:=by
 rcases qG h with⟨O,_⟩ | ⟨b',cap,arr,hb,_,hle,_,hh,hs,hc⟩
 ·cases O
 ·injection hb with hb
  subst hb;exact⟨by rw[dx hh];exact hc i j hi J,gL hh _⟩
theorem Mj{w V:World}{e:TypeId}{k:Nat}{J:List b8}{b cap n i:Nat}(h:dg w e (jF k) J (.slice (some ⟨b,0,none⟩) n cap) (some b))(hn:J.length=n)(hi:i<n)(Z:V.heap[b]?=w.heap[b]?)(r:b8) :
  dg (V.setCells b (i*k) (vN k r)) e (jF k) (J.set i r) (.slice (some ⟨b,0,none⟩) n cap) (some b):=by
 rcases qG h with⟨h0,_⟩ | ⟨b',cap',arr,hb,hu,hle,h63,hh,hs,hc⟩
 ·cases h0
 ·injection hb with hb
  subst hb;injection hu with _ hu1 hu2
  subst hu2;have O:(vN k r).length=k:=by simp
  have Y:i*k+k<=cap*k:=by
   have:=v7 k (show i+1<=cap by omega)
   rwa [E5,Nat.one_mul] at this
  obtain⟨a0,a1,a2,a3,a4⟩:=bA b e (0,0) (vN k r) (i*k) V arr (Z.trans hh) (by rw[hs,O];exact Y);have hl:(J.set i r).length=n:=by simp[hn]
  have:=JT (rows:=J.set i r) a1 (by rw[a2,hs]) (by omega) h63 (fun m j hm hj=>by
   rw[hl] at hm;have U:(J.set i r).getD m []=if i=m then r else J.getD m []:=by
    rw[f9,L5];by_cases e:i=m
    ·subst e;simp[hn,hi]
    ·simp[e,f9]
   rw[U];by_cases e:i=m
   ·subst e;rw[j8 rfl];exact a4 j _ (YB r hj)
   ·rw[i7 e,a3 _ (by
     rw[O];rcases Nat.lt_or_gt_of_ne e with h | h
     ·right;have:=v7 k (show i+1<=m from h);rw[E5,Nat.one_mul] at this;omega
     ·left;have:=v7 k (show m+1<=i from h);rw[E5,Nat.one_mul] at this;omega)]
    exact hc m j (by omega) hj)
  rwa [hl] at this
theorem eF{w w':World}{e:TypeId}{row:List S}{rows:List b8}{u:Value}{B:Option Nat}(h:dg w e row rows u B)(J:Below w.heap.size w w'):dg w' e row rows u B:=by
 rcases h with h | ⟨b,cap,arr,h1,h2,h3,h4,h5,h6⟩
 ·exact .inl h
 ·exact .inr ⟨b,cap,arr,h1,h2,h3,h4,(J.block b (aT h5)).trans h5,h6⟩
abbrev nf:Value:=(.agg #[.int .i64 0,.int .i64 0,.int .i64 0,.int .i64 0])
theorem RS:∀w,(zeroValue 93).run f4 w=.ok nf w:=fun w=>Tryz.zeroValue93 w
theorem oQ{w:World}{rows:List b8}{u:Value}{B:Option Nat}(hO:dg w 93 (jF 4) rows u B)(F:FuncId)(fa:Array Value)(C:b8->Bool)(hC:∀r,C r=C [.i (r 0).int,.i (r 1).int,.i (r 2).int,.i (r 3).int])
  (o4:∀vs w,(callFunc F vs).run f4 w=.ok (.enter F vs) w)
  (b4:Calls f4 234 #[u,.func (.func F) #[] fa] w fun ex w'=>ex=.returned (.int .i64 (ixF (fun k=>C (rows.getD k [])) 0 rows.length))/\Below w.heap.size w w')
  (b0:∀(c3:World) (x0 x1 x2 x3:Int),aI w c3 B->Calls f4 F (#[.agg #[.int .i64 x0,.int .i64 x1,.int .i64 x2,.int .i64 x3]]++fa) c3 fun ex w'=>ex=.returned (.bool (C [.i x0,.i x1,.i x2,.i x3]))/\Below c3.heap.size c3 w') :
  Calls f4 164 #[u,.func (.func F) #[] fa] w fun ex w'=>∃v' B',ex=.returned v'/\aI w w' B/\dg w' 93 (jF 4) (eC C rows) v' B'/\∀b,B'=some b->B=some b\/w.heap.size<=b:=by
 by_cases c0:ixF (fun k=>C (rows.getD k [])) 0 rows.length = -1
 ·rw[c0] at b4;have e7:eC C rows=rows:=by
   rcases je (fun k=>C (rows.getD k [])) rows.length 0 with⟨_,h⟩ | ⟨k,_,h,_⟩
   ·exact ur fun k hk=>by have:=h k hk;rwa [i9] at this
   ·rw[c0] at h;omega
  rw[e7];have HO:Hid _:=hO;clear hO b0 e7;go_enter Tryz.func164,Tryz.ntmps164
  go_wp2_with fail
  refine b4.mono ?_;rintro e w' ⟨rfl,J⟩
  go_wp2_with fail
  go_ret
  exact⟨u,B,rfl,aI.of_below B J,eF HO.out J,fun b J=>.inl J⟩
 ·obtain⟨k0,h9,a8,g2,h5⟩:∃k0:Nat,ixF (fun k=>C (rows.getD k [])) 0 rows.length=(k0:Int)/\k0<rows.length/\(∀k,k<k0->C (rows.getD k [])=false)/\C (rows.getD k0 [])=true:=by
   rcases je (fun k=>C (rows.getD k [])) rows.length 0 with⟨h,_⟩ | ⟨k,h1,h2,h3,h4⟩
   ·exact absurd h c0
   ·simp only[i9] at h2 h3 h4;exact⟨k,h2,h1,h4,h3⟩
  rw[h9] at b4;obtain⟨b,cap,b6,rfl,rfl,l7,m2,hh,hs,hc⟩:∃(b cap:Nat) (b6:Array Value),B=some b/\u=.slice (some ⟨b,0,none⟩) rows.length cap/\rows.length<=cap/\cap<=9223372036854775807/\w.heap[b]?=some (.cells b6 93 (0,0))/\b6.size=cap*4 /\
    ∀i j,i<rows.length->j<4->b6[i*4+j]?=some (.int .i64 (rows.getD i [] j).int):=by
   rcases qG hO with⟨_,h0,_⟩ | h
   ·rw[h0] at a8;simp at a8
   ·exact h
  have HO:Hid _:=hO;have i2:Hid _:=b0;have l1:((k0:Int) == -1)=false:=v8.2 (by omega);have k8:Hid (KI C rows rows k0 (k0+1)):=KI.start a8 g2 h5;have m1:b<w.heap.size:=aT hh;clear hO b0 hh hs hc g2 h5 c0 h9;go_enter Tryz.func164,Tryz.ntmps164
  go_wp2_with fail
  refine b4.mono ?_;rintro e w' ⟨rfl,J⟩;have i0:Hid _:=J;clear J
  go_wp2_with fail
  go_loopw [5,6] (fun s5 s6 wr=>∃(i j:Nat) (Y:List b8),s5=.int .i64 i/\s6=.int .i64 j/\Hid (aI w wr (some b))/\Hid (dg wr 93 (jF 4) Y (.slice (some ⟨b,0,none⟩) rows.length cap) (some b))/\Hid (KI C rows Y i j)) (fun _ s6 _=>rows.length - (intOf s6).toNat)
  case atStart=>exact⟨k0,k0+1,rows,rfl,by go_num,aI.of_below _ i0.out,eF HO.out i0.out,k8.out⟩
  case round =>
   obtain⟨i,j,Y,rfl,rfl,HC,O,HK⟩:=hrel;have l6:=HK.out.lt;have l3:=HK.out.le;have k1:=HK.out.len;by_cases h8:j<rows.length
   ·have e9:(Y.getD j [])=rows.getD j []:=HK.out.rest j (g8 _);obtain⟨b5,_⟩:=dl O.out (i:=j) (j:=0) (by omega) (by omega);obtain⟨c1,c2⟩:=dl O.out (i:=i) (j:=0) (by omega) (by omega);obtain⟨f3,_⟩:=dl O.out (i:=j) (j:=1) (by omega) (by omega);obtain⟨c5,f0⟩:=dl O.out (i:=i) (j:=1) (by omega) (by omega);obtain⟨f2,_⟩:=dl O.out (i:=j) (j:=2) (by omega) (by omega);obtain⟨f1,c6⟩:=dl O.out (i:=i) (j:=2) (by omega) (by omega);obtain⟨c9,_⟩:=dl O.out (i:=j) (j:=3) (by omega) (by omega);obtain⟨e0,c7⟩:=dl O.out (i:=i) (j:=3) (by omega) (by omega);simp only[D4] at b5 c1 c2;have i4:b<wr.heap.size:=by have:=HC.out.size;omega
    rw[e9] at b5 f3 f2 c9;have a7:=fun (x:World) (hx:Below wr.heap.size wr x)=>i2.out x (rows.getD j [] 0).int (rows.getD j [] 1).int (rows.getD j [] 2).int (rows.getD j [] 3).int (HC.out.trans (aI.of_below _ hx) (fun b J=>.inl J))
    rw[<- hC] at a7;generalize h6:(rows.getD j [] 0).int=x0 at *;generalize (Y.getD i [] 0).int=o0 at *;have k4:Hid _:=h6;generalize i1:(rows.getD j [] 1).int=x1 at *;generalize (Y.getD i [] 1).int=o1 at *;have k2:Hid _:=i1;generalize g3:(rows.getD j [] 2).int=x2 at *;generalize (Y.getD i [] 2).int=o2 at *;have k5:Hid _:=g3;generalize h7:(rows.getD j [] 3).int=x3 at *;generalize (Y.getD i [] 3).int=o3 at *;have k3:Hid _:=h7;have a0:Hid _:=a7;clear h6 i1 g3 h7 a7 e9;cases hq:C (rows.getD j []) with
    | false =>
     have HQ:Hid _:=hq;rw[hq] at a0;clear hq
     go_wp2_with fail
     refine (a0.out _ ((Below.refl _ _).alloc (g8 _) _)).mono ?_;rintro e U ⟨rfl,Z⟩;have k9:=Z.size;have a6:U.heap[wr.heap.size]?=some (.cells #[.int .i64 x0,.int .i64 x1,.int .i64 x2,.int .i64 x3] 93 (0,0)):=(Z.block wr.heap.size (by simp)).trans (by letI:Low:=yO;exact fw wr _);have m3:U.cell? ⟨wr.heap.size,0,none⟩=some (.int .i64 x0):=by rw[dx a6];rfl
     have l4:U.cell? ⟨wr.heap.size,1,none⟩=some (.int .i64 x1):=by rw[dx a6];rfl
     have n1:U.cell? ⟨wr.heap.size,2,none⟩=some (.int .i64 x2):=by rw[dx a6];rfl
     have n0:U.cell? ⟨wr.heap.size,3,none⟩=some (.int .i64 x3):=by rw[dx a6];rfl
     clear a6;have V:U.heap[b]?=wr.heap[b]?:=(Z.block b (by simp;omega)).trans (Below.heap_alloc wr _ b i4);have l9:U.cell? ⟨b,i*4,none⟩=some (.int .i64 o0):=(bd V _).trans c1;have o7:U.frozen? ⟨b,i*4,none⟩=false:=by rw[<- c2];unfold World.frozen?;simp only;rw[V]
     have l2:U.cell? ⟨b,i*4+1,none⟩=some (.int .i64 o1):=(bd V _).trans c5;have o5:U.frozen? ⟨b,i*4+1,none⟩=false:=by rw[<- f0];unfold World.frozen?;simp only;rw[V]
     have m5:U.cell? ⟨b,i*4+2,none⟩=some (.int .i64 o2):=(bd V _).trans f1;have m4:U.frozen? ⟨b,i*4+2,none⟩=false:=by rw[<- c6];unfold World.frozen?;simp only;rw[V]
     have l5:U.cell? ⟨b,i*4+3,none⟩=some (.int .i64 o3):=(bd V _).trans e0;have n2:U.frozen? ⟨b,i*4+3,none⟩=false:=by rw[<- c7];unfold World.frozen?;simp only;rw[V]
     have e6:Hid _:=Z;have k6:Hid _:=V;clear Z V c1 c2 b5 c5 f0 f3 f1 c6 f2 e0 c7 c9
     go_wp2_with fail
     have hA:Below wr.heap.size wr U:=((Below.refl _ _).alloc (g8 _) _).trans (e6.out.mono (by simp));have g1 : [Value.int .i64 x0,.int .i64 x1,.int .i64 x2,.int .i64 x3]=vN 4 (rows.getD j []):=by rw[<- k4.out,<- k2.out,<- k5.out,<- k3.out];rfl
     obtain⟨d1,d2,d3,d4,d5⟩:=bu b [Value.int .i64 x0,.int .i64 x1,.int .i64 x2,.int .i64 x3] (i*4) U;refine⟨⟨i+1,j+1,Y.set i (rows.getD j []),by go_num,by go_num,(show Hid _ from ?_),(show Hid _ from ?_),HK.out.keep h8 HQ.out⟩,by simp[intOf];omega⟩
     ·exact (HC.out.trans (aI.of_below _ hA) (fun b J=>.inl J)).trans ⟨d1,d2,d3,C5 d4.symm,fun k hk c4=>d5 k (fun e=>c4 (by rw[e]))⟩ (fun b J=>.inl J)
     ·have:=Mj (i:=i) O.out k1 (by omega) k6.out (rows.getD j []);rw[<- g1] at this;exact this
    | true =>
     have HQ:Hid _:=hq;rw[hq] at a0;clear hq c1 c2 c5 f0 f1 c6 e0 c7
     go_wp2_with fail
     refine (a0.out _ ((Below.refl _ _).alloc (g8 _) _)).mono ?_;rintro e U ⟨rfl,Z⟩;have e6:Hid _:=Z;clear Z b5 f3 f2 c9
     go_wp2_with fail
     have hA:Below wr.heap.size wr U:=((Below.refl _ _).alloc (g8 _) _).trans (e6.out.mono (by simp));exact⟨⟨i,j+1,Y,rfl,by go_num,HC.out.trans (aI.of_below _ hA) (fun b J=>.inl J),eF O.out hA,HK.out.skip h8 HQ.out⟩,by simp[intOf];omega⟩
   ·obtain rfl:j=rows.length:=by omega
    have a5:∀k,k<rows.length*4->(wr.cell? ⟨b,k,none⟩).isSome=true/\wr.frozen? ⟨b,k,none⟩=false:=fun k hk=>by obtain⟨q1,q2⟩:=dl O.out (i:=k / 4) (j:=k % 4) (by omega) (by omega);rw[show k / 4*4+k % 4=k from by omega] at q1 q2;exact⟨by rw[q1];rfl,q2⟩
    have c8:nf.cells.size=4:=rfl;have k7:∀ty,(Builtin.clear_ #[34] ty #[.slice (some ⟨b,i*4,none⟩) (rows.length - i) (cap - i)]).run f4 wr=.ok (.tuple #[]) (wr.setCells b (i*4) (Builtin.zeroCells nf.cells (rows.length - i)).toList):=fun ty =>
     Bs wr _ _ ty nf Tryz.underlying34 RS (fun u hu=>by simp[Value.cells] at hu;subst hu;rfl) b (i*4) _ _ (by omega) (by decide)
      (fun k hk=>(a5 (i*4+k) (by rw[c8] at hk;omega)).1) (fun k hk=>(a5 (i*4+k) (by rw[c8] at hk;omega)).2)
    have o6:Hid _:=k7;have b1:i<=cap:=by omega
    have b2:i<=rows.length:=by omega
    have b3:¬(cap=i):=by omega
    clear a5 c8;go_wp2
    go_ret
    have i3:eC C rows=Y.take i:=by have:=HK.out.done;rw[z9 (g8 _)] at this;exact this.symm
    rw[i3];obtain⟨d1,d2,d3,d4,d5⟩:=bu b (Builtin.zeroCells nf.cells (rows.length - i)).toList (i*4) wr;refine⟨_,some b,rfl,HC.out.trans ⟨d1,d2,d3,C5 d4.symm,fun k hk c4=>d5 k (fun e=>c4 (by rw[e]))⟩ (fun b J=>.inl J),?_,fun b J=>.inl J⟩;rcases qG O.out with⟨h0,_⟩ | ⟨b',cap',arr',J,hu,hle',h63',hh',hs',hc'⟩
    ·cases h0
    ·injection J with J
     subst J;injection hu with _ _ hu2
     subst hu2;obtain⟨l0,a1,a2,a3,a4⟩:=bA b 93 (0,0) (Builtin.zeroCells nf.cells (rows.length - i)).toList (i*4) wr arr' hh' (by
      have:(Builtin.zeroCells nf.cells (rows.length - i)).toList.length=(rows.length - i)*4:=by simp[size_zeroCells,show nf.cells.size=4 from rfl]
      rw[this,hs'];omega)
     have hl:(Y.take i).length=i:=by rw[s9];omega
     have:=JT (rows:=Y.take i) a1 (by rw[a2,hs']) (by omega) h63' (fun k m hk hm=>by rw[hl] at hk;rw[f9,s7,j8 hk,<- f9];rw[a3 _ (.inl (by omega))];exact hc' k m (by omega) hm)
     rwa [hl] at this
abbrev ms:Value:=(.agg #[.int .i64 0,.int .i64 0])
theorem RP:∀w,(zeroValue 108).run f4 w=.ok ms w:=fun w=>Tryz.zeroValue108 w
theorem Kj{w:World}{rows:List b8}{u:Value}{B:Option Nat}(hO:dg w 108 (jF 2) rows u B)(F:FuncId)(fa:Array Value)(C:b8->Bool)(hC:∀r,C r=C [.i (r 0).int,.i (r 1).int])
  (l0:∀vs w,(callFunc F vs).run f4 w=.ok (.enter F vs) w)
  (b0:Calls f4 221 #[u,.func (.func F) #[] fa] w fun ex w'=>ex=.returned (.int .i64 (ixF (fun k=>C (rows.getD k [])) 0 rows.length))/\Below w.heap.size w w')
  (a7:∀(c2:World) (x0 x1:Int),aI w c2 B->Calls f4 F (#[.agg #[.int .i64 x0,.int .i64 x1]]++fa) c2 fun ex w'=>ex=.returned (.bool (C [.i x0,.i x1]))/\Below c2.heap.size c2 w') :
  Calls f4 245 #[u,.func (.func F) #[] fa] w fun ex w'=>∃v' B',ex=.returned v'/\aI w w' B/\dg w' 108 (jF 2) (eC C rows) v' B'/\∀b,B'=some b->B=some b\/w.heap.size<=b:=by
 by_cases b6:ixF (fun k=>C (rows.getD k [])) 0 rows.length = -1
 ·rw[b6] at b0;have c7:eC C rows=rows:=by
   rcases je (fun k=>C (rows.getD k [])) rows.length 0 with⟨_,h⟩ | ⟨k,_,h,_⟩
   ·exact ur fun k hk=>by have:=h k hk;rwa [i9] at this
   ·rw[b6] at h;omega
  rw[c7];have HO:Hid _:=hO;clear hO a7 c7;go_enter Tryz.func245,Tryz.ntmps245
  go_wp2_with fail
  refine b0.mono ?_;rintro e w' ⟨rfl,J⟩
  go_wp2_with fail
  go_ret
  exact⟨u,B,rfl,aI.of_below B J,eF HO.out J,fun b J=>.inl J⟩
 ·obtain⟨k0,f2,a6,e7,e9⟩:∃k0:Nat,ixF (fun k=>C (rows.getD k [])) 0 rows.length=(k0:Int)/\k0<rows.length/\(∀k,k<k0->C (rows.getD k [])=false)/\C (rows.getD k0 [])=true:=by
   rcases je (fun k=>C (rows.getD k [])) rows.length 0 with⟨h,_⟩ | ⟨k,h1,h2,h3,h4⟩
   ·exact absurd h b6
   ·simp only[i9] at h2 h3 h4;exact⟨k,h2,h1,h4,h3⟩
  rw[f2] at b0;obtain⟨b,cap,b5,rfl,rfl,k5,k8,hh,hs,hc⟩:∃(b cap:Nat) (b5:Array Value),B=some b/\u=.slice (some ⟨b,0,none⟩) rows.length cap/\rows.length<=cap/\cap<=9223372036854775807/\w.heap[b]?=some (.cells b5 108 (0,0))/\b5.size=cap*2 /\
    ∀i j,i<rows.length->j<2->b5[i*2+j]?=some (.int .i64 (rows.getD i [] j).int):=by
   rcases qG hO with⟨_,h0,_⟩ | h
   ·rw[h0] at a6;simp at a6
   ·exact h
  have HO:Hid _:=hO;have g2:Hid _:=a7;have i4:((k0:Int) == -1)=false:=v8.2 (by omega);have i1:Hid (KI C rows rows k0 (k0+1)):=KI.start a6 e7 e9;have k7:b<w.heap.size:=aT hh;clear hO a7 hh hs hc e7 e9 b6 f2;go_enter Tryz.func245,Tryz.ntmps245
  go_wp2_with fail
  refine b0.mono ?_;rintro e w' ⟨rfl,J⟩;have f3:Hid _:=J;clear J
  go_wp2_with fail
  go_loopw [5,6] (fun s5 s6 wr=>∃(i j:Nat) (rj:List b8),s5=.int .i64 i/\s6=.int .i64 j/\Hid (aI w wr (some b))/\Hid (dg wr 108 (jF 2) rj (.slice (some ⟨b,0,none⟩) rows.length cap) (some b))/\Hid (KI C rows rj i j)) (fun _ s6 _=>rows.length - (intOf s6).toNat)
  case atStart=>exact⟨k0,k0+1,rows,rfl,by go_num,aI.of_below _ f3.out,eF HO.out f3.out,i1.out⟩
  case round =>
   obtain⟨i,j,rj,rfl,rfl,HC,U,HK⟩:=hrel;have k4:=HK.out.lt;have k2:=HK.out.le;have h6:=HK.out.len;by_cases f1:j<rows.length
   ·have c8:(rj.getD j [])=rows.getD j []:=HK.out.rest j (g8 _);obtain⟨b4,_⟩:=dl U.out (i:=j) (j:=0) (by omega) (by omega);obtain⟨c0,c1⟩:=dl U.out (i:=i) (j:=0) (by omega) (by omega);obtain⟨e0,_⟩:=dl U.out (i:=j) (j:=1) (by omega) (by omega);obtain⟨c4,c9⟩:=dl U.out (i:=i) (j:=1) (by omega) (by omega);simp only[D4] at b4 c0 c1;have h5:b<wr.heap.size:=by have:=HC.out.size;omega
    rw[c8] at b4 e0;have a5:=fun (x:World) (hx:Below wr.heap.size wr x)=>g2.out x (rows.getD j [] 0).int (rows.getD j [] 1).int (HC.out.trans (aI.of_below _ hx) (fun b J=>.inl J))
    rw[<- hC] at a5;generalize f0:(rows.getD j [] 0).int=x0 at *;generalize (rj.getD i [] 0).int=o0 at *;have h8:Hid _:=f0;generalize g1:(rows.getD j [] 1).int=x1 at *;generalize (rj.getD i [] 1).int=o1 at *;have h7:Hid _:=g1;have Y:Hid _:=a5;clear f0 g1 a5 c8;cases hq:C (rows.getD j []) with
    | false =>
     have HQ:Hid _:=hq;rw[hq] at Y;clear hq
     go_wp2_with fail
     refine (Y.out _ ((Below.refl _ _).alloc (g8 _) _)).mono ?_;rintro e V ⟨rfl,O⟩;have i2:=O.size;have a8:V.heap[wr.heap.size]?=some (.cells #[.int .i64 x0,.int .i64 x1] 108 (0,0)):=(O.block wr.heap.size (by simp)).trans (by letI:Low:=yO;exact fw wr _);have k9:V.cell? ⟨wr.heap.size,0,none⟩=some (.int .i64 x0):=by rw[dx a8];rfl
     have k3:V.cell? ⟨wr.heap.size,1,none⟩=some (.int .i64 x1):=by rw[dx a8];rfl
     clear a8;have a0:V.heap[b]?=wr.heap[b]?:=(O.block b (by simp;omega)).trans (Below.heap_alloc wr _ b h5);have k6:V.cell? ⟨b,i*2,none⟩=some (.int .i64 o0):=(bd a0 _).trans c0;have l3:V.frozen? ⟨b,i*2,none⟩=false:=by rw[<- c1];unfold World.frozen?;simp only;rw[a0]
     have k1:V.cell? ⟨b,i*2+1,none⟩=some (.int .i64 o1):=(bd a0 _).trans c4;have l1:V.frozen? ⟨b,i*2+1,none⟩=false:=by rw[<- c9];unfold World.frozen?;simp only;rw[a0]
     have c6:Hid _:=O;have h9:Hid _:=a0;clear O a0 c0 c1 b4 c4 c9 e0
     go_wp2_with fail
     have hA:Below wr.heap.size wr V:=((Below.refl _ _).alloc (g8 _) _).trans (c6.out.mono (by simp));have e6 : [Value.int .i64 x0,.int .i64 x1]=vN 2 (rows.getD j []):=by rw[<- h8.out,<- h7.out];rfl
     obtain⟨d1,d2,d3,d4,d5⟩:=bu b [Value.int .i64 x0,.int .i64 x1] (i*2) V;refine⟨⟨i+1,j+1,rj.set i (rows.getD j []),by go_num,by go_num,(show Hid _ from ?_),(show Hid _ from ?_),HK.out.keep f1 HQ.out⟩,by simp[intOf];omega⟩
     ·exact (HC.out.trans (aI.of_below _ hA) (fun b J=>.inl J)).trans ⟨d1,d2,d3,C5 d4.symm,fun k hk c3=>d5 k (fun e=>c3 (by rw[e]))⟩ (fun b J=>.inl J)
     ·have:=Mj (i:=i) U.out h6 (by omega) h9.out (rows.getD j []);rw[<- e6] at this;exact this
    | true =>
     have HQ:Hid _:=hq;rw[hq] at Y;clear hq c0 c1 c4 c9
     go_wp2_with fail
     refine (Y.out _ ((Below.refl _ _).alloc (g8 _) _)).mono ?_;rintro e V ⟨rfl,O⟩;have c6:Hid _:=O;clear O b4 e0
     go_wp2_with fail
     have hA:Below wr.heap.size wr V:=((Below.refl _ _).alloc (g8 _) _).trans (c6.out.mono (by simp));exact⟨⟨i,j+1,rj,rfl,by go_num,HC.out.trans (aI.of_below _ hA) (fun b J=>.inl J),eF U.out hA,HK.out.skip f1 HQ.out⟩,by simp[intOf];omega⟩
   ·obtain rfl:j=rows.length:=by omega
    have Z:∀k,k<rows.length*2->(wr.cell? ⟨b,k,none⟩).isSome=true/\wr.frozen? ⟨b,k,none⟩=false:=fun k hk=>by obtain⟨q1,q2⟩:=dl U.out (i:=k / 2) (j:=k % 2) (by omega) (by omega);rw[show k / 2*2+k % 2=k from by omega] at q1 q2;exact⟨by rw[q1];rfl,q2⟩
    have c5:ms.cells.size=2:=rfl;have i0:∀ty,(Builtin.clear_ #[33] ty #[.slice (some ⟨b,i*2,none⟩) (rows.length - i) (cap - i)]).run f4 wr=.ok (.tuple #[]) (wr.setCells b (i*2) (Builtin.zeroCells ms.cells (rows.length - i)).toList):=fun ty =>
     Bs wr _ _ ty ms Tryz.underlying33 RP (fun u hu=>by simp[Value.cells] at hu;subst hu;rfl) b (i*2) _ _ (by omega) (by decide)
      (fun k hk=>(Z (i*2+k) (by rw[c5] at hk;omega)).1) (fun k hk=>(Z (i*2+k) (by rw[c5] at hk;omega)).2)
    have l2:Hid _:=i0;have b1:i<=cap:=by omega
    have b2:i<=rows.length:=by omega
    have b3:¬(cap=i):=by omega
    clear Z c5;go_wp2
    go_ret
    have g3:eC C rows=rj.take i:=by have:=HK.out.done;rw[z9 (g8 _)] at this;exact this.symm
    rw[g3];obtain⟨d1,d2,d3,d4,d5⟩:=bu b (Builtin.zeroCells ms.cells (rows.length - i)).toList (i*2) wr;refine⟨_,some b,rfl,HC.out.trans ⟨d1,d2,d3,C5 d4.symm,fun k hk c3=>d5 k (fun e=>c3 (by rw[e]))⟩ (fun b J=>.inl J),?_,fun b J=>.inl J⟩;rcases qG U.out with⟨h0,_⟩ | ⟨b',cap',arr',J,hu,hle',h63',hh',hs',hc'⟩
    ·cases h0
    ·injection J with J
     subst J;injection hu with _ _ hu2
     subst hu2;obtain⟨i3,a1,a2,a3,a4⟩:=bA b 108 (0,0) (Builtin.zeroCells ms.cells (rows.length - i)).toList (i*2) wr arr' hh' (by
      have:(Builtin.zeroCells ms.cells (rows.length - i)).toList.length=(rows.length - i)*2:=by simp[size_zeroCells,show ms.cells.size=2 from rfl]
      rw[this,hs'];omega)
     have hl:(rj.take i).length=i:=by rw[s9];omega
     have:=JT (rows:=rj.take i) a1 (by rw[a2,hs']) (by omega) h63' (fun k m hk hm=>by rw[hl] at hk;rw[f9,s7,j8 hk,<- f9];rw[a3 _ (.inl (by omega))];exact hc' k m (by omega) hm)
     rwa [hl] at this
set_option maxRecDepth 4096
set_option maxHeartbeats 1000000
abbrev Hh:=find [JH]
abbrev HM:=[0,1,2,3,4]
theorem Pq(N:Nat)(p q r:b8):aZ f4 Hh N HM Tryz.f246 rb [⟨ag AD,p⟩,⟨.one (.c (.cptr [si,si] 0)),q⟩,⟨.one (.c (.cptr [.bool] 0)),r⟩]=some (bo,
 ob (!((inB (p 0).int (((q 0).rows.getD 0 []) 0).int (w64 ((((q 0).rows.getD 0 []) 1).int - 1)))==(((r 0).rows.getD 0 []) 0).bool))):=by kernel_rfl
def xt(p q r:b8):Bool:=
 !((inB (p 0).int (((q 0).rows.getD 0 []) 0).int (w64 ((((q 0).rows.getD 0 []) 1).int - 1)))==(((r 0).rows.getD 0 []) 0).bool)
def HP:Ent:=(246,e3 (ag AD) (.one (.c (.cptr [si,si] 0))) (.one (.c (.cptr [.bool] 0))) fun p q r=>(⟨rb,[.b (xt p [q 0] [r 0])]⟩,true))
theorem zg:aw f4 HP:=em fun p q r h=>aq (N:=0) (ks:=HM) (ap (fC ⟨FK,fN⟩)) Tryz.func246 fun hw=>by
 rw[Pq]
 try simp only[dd,de,db]
 rfl
abbrev YM:=find [HP]
abbrev Zh:=[0,1,4,5,7,8,9,16]
def Ca(N:Nat)(p q:b8):b8->Out:=bc f4 YM N Zh Tryz.f221 ri [⟨sd (.sl 108),p⟩,⟨.one (.c (.fn 246 [.cptr [si,si] 0,.cptr [.bool] 0])),q⟩] 0
theorem aaU(N:Nat)(p q:b8)(O U Y V J:D):(Ca N p q) [O,U,Y,V,J] =
 bif ltI J.int V.int then nd (al J.int O.rows.length) (bif xt (sub (O.rows.getD J.int.toNat []) 0 2) [U.rows.getD 0 [] 0] [(U.rows.getD 0 []).tail 0] then some (1,[J])
 else nx [O,U,Y,V,.i (w64 (J.int+1))])
 else ex 0 [O,U,Y,V,J]:=by kernel_rfl
theorem aeu(N:Nat)(p q:b8):aZ f4 YM N Zh Tryz.f221 ri [⟨sd (.sl 108),p⟩,⟨.one (.c (.fn 246 [.cptr [si,si] 0,.cptr [.bool] 0])),q⟩]=some (bo,
 (let J:=ba (Ca N p q) N [p 0,q 0,.i 0,.i (p 0:Int),.i 0]
  nd J.isSome (bif J.code==1 then some (1,J.pay)
  else nd (J.code==2) (oi (-1))))):=by kernel_rfl
def vL(c:D)(r:b8):Bool:=xt r [c.rows.getD 0 [] 0] [(c.rows.getD 0 []).tail 0]
def akZ:Ent:=(221,e2 (sd (.sl 108)) (.one (.c (.fn 246 [.cptr [si,si] 0,.cptr [.bool] 0]))) fun p q=>(⟨ri,[.i (ixF (fun k=>vL (q 0) (sub ((p 0).rows.getD k []) 0 2)) 0 (p 0).rows.length)]⟩,true))
theorem age:aw f4 akZ:=bj fun p q h=>aq (N:=(p 0).rows.length+1) (ks:=Zh) (ap (fC ⟨zg,fN⟩)) Tryz.func221 fun hw=>by
 rw[aeu];have U:=dY (hw ⟨sd (.sl 108),p⟩ (by simp));have e:=fK (L:=Ca ((p 0).rows.length+1) p q) (fun k => [p 0,q 0,.i 0,.i (p 0:Int),.i (k:Int)]) (p 0).rows.length (fun k=>vL (q 0) (sub (p 0 k) 0 2)) [p 0,q 0,.i 0,.i (p 0:Int),.i (p 0:Int)] (fun k hk=>?_) ?_ (p 0).rows.length 0 ((p 0).rows.length+1) (by omega) (by omega)
 ·simp only[g9] at e;rw[e];have J:=fx (fun k=>vL (q 0) (sub (p 0 k) 0 2)) (p 0).rows.length 0;cases O:decide (ixF (fun k=>vL (q 0) (sub (p 0 k) 0 2)) 0 (p 0).rows.length>=0)
  ·rw[J O];rfl
  ·rfl
 ·show Ca _ p q [_,_,_,_,.i (k:Int)]=_;rw[aaU];simp only[aE,cy hk,bn hk,aF hk U,g4];change (bif vL (q 0) (sub (p 0 k) 0 2) then some (1,[.i (k:Int)]) else nx [p 0,q 0,.i 0,.i (p 0:Int),.i ((k+1:Nat):Int)])=_;cases vL (q 0) (sub (p 0 k) 0 2) <;> rfl
 ·show Ca _ p q [_,_,_,.i (p 0:Int),.i (p 0:Int)]=_;rw[aaU];simp only[aE,bF]
abbrev wo:=find []
theorem Ei:av f4 wo:=ap (fN)
abbrev wI:=[0,1,2,3]
theorem EU(N:Nat)(p q:b8):aZ f4 wo N wI Tryz.f194 rb [⟨ag cV,p⟩,⟨.one (.c (.cptr [si] 0)),q⟩]=some (bo,
 ob ((p 0).int==(((q 0).rows.getD 0 []) 0).int)):=by kernel_rfl
def ke(p q:b8):Bool:=
 (p 0).int==(((q 0).rows.getD 0 []) 0).int
def xE:Ent:=(194,e2 (ag cV) (.one (.c (.cptr [si] 0))) fun p q=>(⟨rb,[.b (ke p [q 0])]⟩,true))
theorem rQ:aw f4 xE:=bj fun p q h=>aq (N:=0) (ks:=wI) Ei Tryz.func194 fun hw=>by
 rw[EU]
 try simp only[dd,de,db]
 rfl
abbrev YE:=find [xE]
abbrev XU:=[0,1,4,5,7,8,9,16]
def Ds(N:Nat)(p q:b8):b8->Out:=bc f4 YE N XU Tryz.f234 ri [⟨sd (.sl 93),p⟩,⟨.one (.c (.fn 194 [.cptr [si] 0])),q⟩] 0
theorem abe(N:Nat)(p q:b8)(O U Y V J:D):(Ds N p q) [O,U,Y,V,J] =
 bif ltI J.int V.int then nd (al J.int O.rows.length) (bif ke (sub (O.rows.getD J.int.toNat []) 0 4) [U.rows.getD 0 [] 0] then some (1,[J])
 else nx [O,U,Y,V,.i (w64 (J.int+1))])
 else ex 0 [O,U,Y,V,J]:=by kernel_rfl
theorem ahF(N:Nat)(p q:b8):aZ f4 YE N XU Tryz.f234 ri [⟨sd (.sl 93),p⟩,⟨.one (.c (.fn 194 [.cptr [si] 0])),q⟩]=some (bo,
 (let J:=ba (Ds N p q) N [p 0,q 0,.i 0,.i (p 0:Int),.i 0]
  nd J.isSome (bif J.code==1 then some (1,J.pay)
  else nd (J.code==2) (oi (-1))))):=by kernel_rfl
def Bb(c:D)(r:b8):Bool:=ke r [c.rows.getD 0 [] 0]
def alf:Ent:=(234,e2 (sd (.sl 93)) (.one (.c (.fn 194 [.cptr [si] 0]))) fun p q=>(⟨ri,[.i (ixF (fun k=>Bb (q 0) (sub ((p 0).rows.getD k []) 0 4)) 0 (p 0).rows.length)]⟩,true))
theorem agL:aw f4 alf:=bj fun p q h=>aq (N:=(p 0).rows.length+1) (ks:=XU) (ap (fC ⟨rQ,fN⟩)) Tryz.func234 fun hw=>by
 rw[ahF];have U:=dY (hw ⟨sd (.sl 93),p⟩ (by simp));have e:=fK (L:=Ds ((p 0).rows.length+1) p q) (fun k => [p 0,q 0,.i 0,.i (p 0:Int),.i (k:Int)]) (p 0).rows.length (fun k=>Bb (q 0) (sub (p 0 k) 0 4)) [p 0,q 0,.i 0,.i (p 0:Int),.i (p 0:Int)] (fun k hk=>?_) ?_ (p 0).rows.length 0 ((p 0).rows.length+1) (by omega) (by omega)
 ·simp only[g9] at e;rw[e];have J:=fx (fun k=>Bb (q 0) (sub (p 0 k) 0 4)) (p 0).rows.length 0;cases O:decide (ixF (fun k=>Bb (q 0) (sub (p 0 k) 0 4)) 0 (p 0).rows.length>=0)
  ·rw[J O];rfl
  ·rfl
 ·show Ds _ p q [_,_,_,_,.i (k:Int)]=_;rw[abe];simp only[aE,cy hk,bn hk,aF hk U,g4];unfold Bb;cases ke (sub (p 0 k) 0 4) [q 0 0 0] <;> rfl
 ·show Ds _ p q [_,_,_,.i (p 0:Int),.i (p 0:Int)]=_;rw[abe];simp only[aE,bF]
set_option maxRecDepth 100000
set_option maxHeartbeats 4000000
def Zu(x c:D):D:=.l (eC (fun r=>vL c (sub r 0 2)) x.rows)
def Ro:Ent:=(245,e2 (sd (.sl 108)) (.one (.c (.fn 246 [.cptr [si,si] 0,.cptr [.bool] 0]))) fun p q=>(⟨.tup [.agg [.any]],[Zu (p 0) (q 0)]⟩,true))
theorem Ve:aw f4 Ro:=bj fun p q h=>by
 refine aQ.ofK rfl ⟨cN Tryz.func245 (by kernel_rfl) (by kernel_rfl),fun e x rest row Z a0 b2 w prot u B vs hO hB a8 a2 b4=>?_⟩;injection Z with Z hre
 injection Z with Z hp
 injection Z with Z
 injection Z with Z
 injection Z with Z
 injection Z with Z
 subst Z hre;have hx:p 0=x:=by rw[hp];rfl
 rw[show bk f4 108=some (jF 2) from by kernel_rfl] at a0;injection a0 with a0
 subst a0;obtain⟨f0,b0,U,b1,a5,a7⟩:∃f0,vs = #[f0]/\∃U:Array Value,f0=.func (.func 246) #[] U/\U.size=2/\∀J,aI w J B->(∃z,U[0]?=some z/\fU f4 J (g0 J.heap.size prot) J.heap.size [si,si] 0 (q 0 0 0) z)/\(∃z,U[1]?=some z/\fU f4 J (g0 J.heap.size prot) J.heap.size [.bool] 0 ((q 0 0).tail 0) z):=by
  have hg:=fun J (hC:aI w J B)=>(a2 J hC).2 0 _ rfl
  obtain⟨f0,h1,U,h2,h3,h4⟩:=hg w (aI.refl w B);refine⟨f0,ml (a2 w (aI.refl w B)) [f0] rfl fun j t u' O hu=>?_,U,h2,h3,fun J hC=>?_⟩
  ·match j,O with
   | 0,_=>rw[h1] at hu;injection hu with hu;rw[<- hu];rfl
  ·obtain⟨f1,k1,fb,k2,k3,k4⟩:=hg J hC;rw[h1] at k1;injection k1 with k1;subst k1;rw[h2] at k2;injection k2 with _ _ k2;subst k2;exact⟨by exact k4 0 _ rfl,by rw[dG];exact k4 1 _ rfl⟩
 subst b0 b1
 let C:b8->Bool:=fun r=>vL (q 0) (sub r 0 2)
 have a1:∀J V,aI w J B->∃z,U[0]?=some z/\fU f4 J (g0 J.heap.size V) J.heap.size [si,si] 0 (q 0 0 0) z:=by
  intro J V hC;obtain⟨z,h1,b,o,h2,h3,h4⟩:=(a7 J hC).1;refine⟨z,h1,b,o,h2,h3,fun j s hs=>?_⟩;obtain⟨u',k1,k2⟩:=h4 j s hs;have a4:s=si:=by
   match j,hs with
   | 0,hs=>injection hs with hs;exact hs.symm
   | 1,hs=>injection hs with hs;exact hs.symm
  subst a4;exact⟨u',k1,by cases k2;exact .int _ _⟩
 have a3:∀J V,aI w J B->∃z,U[1]?=some z/\fU f4 J (g0 J.heap.size V) J.heap.size [.bool] 0 ((q 0 0).tail 0) z:=by
  intro J V hC;obtain⟨z,h1,b,o,h2,h3,h4⟩:=(a7 J hC).2;refine⟨z,h1,b,o,h2,h3,fun j s hs=>?_⟩;obtain⟨u',k1,k2⟩:=h4 j s hs;have a4:s=.bool:=by
   match j,hs with
   | 0,hs=>injection hs with hs;exact hs.symm
  subst a4;exact⟨u',k1,by cases k2;exact .bool _⟩
 have b3:U.toList.length=2:=by simpa using a5
 have a6:=Kj hO 246 U C (fun r=>rfl) (cN Tryz.func246) ?_ ?_
 ·show Calls _ _ #[u,.func (.func 246) #[] U] w fun ex w'=>∃v' B',ex=.returned v'/\aI w w' B/\dg w' _ _ (eC C (p 0).rows) v' B'/\_
  rw[hx];exact a6
 ·-- the search
  have hs:=age [⟨sd (.sl 108),[x]⟩,⟨.one (.c (.fn 246 [.cptr [si,si] 0,.cptr [.bool] 0])),q⟩] ⟨ri,[.i (ixF (fun k=>C (x k)) 0 x.rows.length)]⟩ rfl;have hs:=(hs.n rfl).2 w (fun b=>if B=some b then x.rows.length*2 else prot b) #[u,.func (.func 246) #[] U] ⟨rfl,fun j t O=>?_⟩ (fun b hb=>?_)
  ·refine hs.mono ?_;rintro ex w' ⟨v',g',rfl,hR⟩;have hv:VD f4 w' g'.prot (.int .i64) (.i (ixF (fun k=>C (x k)) 0 x.rows.length)) v':=hR.val;cases hv;exact⟨rfl,hR.below⟩
  ·match j,O with
   | 0,O =>
    injection O with O;subst O
    refine⟨u,rfl,?_⟩;have:=yv (P:=f4) (z:=x) (show bk f4 108=some (jF 2) from by kernel_rfl) hO;exact this.mono fun b o z h1 h2=>⟨h2,by
     change o<(if B=some b then x.rows.length*2 else 0) at h1;show o<(if B=some b then x.rows.length*2 else prot b)
     split at h1
     ·rw[j8 ‹_›];exact h1
     ·omega⟩
   | 1,O =>
    injection O with O;subst O
    refine⟨_,rfl,U,rfl,a5,fun j c hc=>?_⟩
    match j,hc with
    | 0,hc =>
     injection hc with hc;subst hc
     exact a1 w _ (aI.refl w B)
    | 1,hc =>
     injection hc with hc;subst hc
     exact by rw[show q 0 0 1=(q 0 0).tail 0 from by rw[dG]];exact a3 w _ (aI.refl w B)
  ·show (if B=some b then _ else prot b)=0;rw[i7 (fun e=>by have:=oI hO b e;omega)];exact a8 b hb
 ·intro J x0 x1 hC;have hs:=zg [⟨ag AD,[.i x0,.i x1]⟩,⟨.one (.c (.cptr [si,si] 0)),[q 0 0 0]⟩,⟨.one (.c (.cptr [.bool] 0)),[(q 0 0).tail 0]⟩] ⟨rb,[.b (C [.i x0,.i x1])]⟩ rfl;have hs:=(hs.n rfl).2 J (fun _=>0) (#[.agg #[.int .i64 x0,.int .i64 x1]]++U) ⟨by rw[A9,a5];rfl,fun j t O=>?_⟩ (fun b hb=>rfl)
  ·refine hs.mono ?_;rintro ex w' ⟨v',g',rfl,hR⟩;have hv:VD f4 w' g'.prot .bool (.b (C [.i x0,.i x1])) v':=hR.val;cases hv;exact⟨rfl,hR.below⟩
  ·match j,O with
   | 0,O =>
    injection O with O;subst O
    refine⟨.agg #[.int .i64 x0,.int .i64 x1],r9 (xs:= #[Value.agg #[.int .i64 x0,.int .i64 x1]]) (i:=0) (by show 0<1;omega),#[.int .i64 x0,.int .i64 x1],rfl,rfl,fun j cc Y=>?_⟩
    match j,Y with
    | 0,Y=>injection Y with Y;subst Y;exact⟨_,rfl,.int .i64 (.i x0)⟩
    | 1,Y=>injection Y with Y;subst Y;exact⟨_,rfl,.int .i64 (.i x1)⟩
   | 1,O =>
    injection O with O;subst O
    obtain⟨z,h1,h2⟩:=a1 J (fun _=>0) hC;refine⟨z,?_,h2⟩;exact (A4 (xs:= #[Value.agg #[.int .i64 x0,.int .i64 x1]]) (i:=1) (by show 1<=1;omega)).trans h1
   | 2,O =>
    injection O with O;subst O
    obtain⟨z,h1,h2⟩:=a3 J (fun _=>0) hC;refine⟨z,?_,h2⟩;exact (A4 (xs:= #[Value.agg #[.int .i64 x0,.int .i64 x1]]) (i:=2) (by show 1<=2;omega)).trans h1
def Yl(x c:D):D:=.l (eC (fun r=>Bb c (sub r 0 4)) x.rows)
def QA:Ent:=(164,e2 (sd (.sl 93)) (.one (.c (.fn 194 [.cptr [si] 0]))) fun p q=>(⟨.tup [.agg [.any]],[Yl (p 0) (q 0)]⟩,true))
theorem Vz:aw f4 QA:=bj fun p q h=>by
 refine aQ.ofK rfl ⟨cN Tryz.func164 (by kernel_rfl) (by kernel_rfl),fun e x rest row V a0 b2 w prot u B vs hO hB a8 a3 b4=>?_⟩;injection V with V hre
 injection V with V hp
 injection V with V
 injection V with V
 injection V with V
 injection V with V
 subst V hre;have hx:p 0=x:=by rw[hp];rfl
 rw[show bk f4 93=some (jF 4) from by kernel_rfl] at a0;injection a0 with a0
 subst a0;obtain⟨f0,b0,Y,b1,a4,a7⟩:∃f0,vs = #[f0]/\∃Y:Array Value,f0=.func (.func 194) #[] Y/\Y.size=1/\∀J,aI w J B->(∃z,Y[0]?=some z/\fU f4 J (g0 J.heap.size prot) J.heap.size [si] 0 (q 0 0 0) z):=by
  have hg:=fun J (hC:aI w J B)=>(a3 J hC).2 0 _ rfl
  obtain⟨f0,h1,Y,h2,h3,h4⟩:=hg w (aI.refl w B);refine⟨f0,ml (a3 w (aI.refl w B)) [f0] rfl fun j t u' U hu=>?_,Y,h2,h3,fun J hC=>?_⟩
  ·match j,U with
   | 0,_=>rw[h1] at hu;injection hu with hu;rw[<- hu];rfl
  ·obtain⟨f1,k1,fb,k2,k3,k4⟩:=hg J hC;rw[h1] at k1;injection k1 with k1;subst k1;rw[h2] at k2;injection k2 with _ _ k2;subst k2;exact k4 0 _ rfl
 subst b0 b1
 let C:b8->Bool:=fun r=>Bb (q 0) (sub r 0 4)
 have a2:∀J a1,aI w J B->∃z,Y[0]?=some z/\fU f4 J (g0 J.heap.size a1) J.heap.size [si] 0 (q 0 0 0) z:=by
  intro J a1 hC;obtain⟨z,h1,b,o,h2,h3,h4⟩:=a7 J hC;refine⟨z,h1,b,o,h2,h3,fun j s hs=>?_⟩;obtain⟨u',k1,k2⟩:=h4 j s hs;have a6:s=si:=by
   match j,hs with
   | 0,hs=>injection hs with hs;exact hs.symm
  subst a6;exact⟨u',k1,by cases k2;exact .int _ _⟩
 have b3:Y.toList.length=1:=by simpa using a4
 have a5:=oQ hO 194 Y C (fun r=>rfl) (cN Tryz.func194) ?_ ?_
 ·show Calls _ _ #[u,.func (.func 194) #[] Y] w fun ex w'=>∃v' B',ex=.returned v'/\aI w w' B/\dg w' _ _ (eC C (p 0).rows) v' B'/\_
  rw[hx];exact a5
 ·-- the search
  have hs:=agL [⟨sd (.sl 93),[x]⟩,⟨.one (.c (.fn 194 [.cptr [si] 0])),q⟩] ⟨ri,[.i (ixF (fun k=>C (x k)) 0 x.rows.length)]⟩ rfl;have hs:=(hs.n rfl).2 w (fun b=>if B=some b then x.rows.length*4 else prot b) #[u,.func (.func 194) #[] Y] ⟨rfl,fun j t U=>?_⟩ (fun b hb=>?_)
  ·refine hs.mono ?_;rintro ex w' ⟨v',g',rfl,hR⟩;have hv:VD f4 w' g'.prot (.int .i64) (.i (ixF (fun k=>C (x k)) 0 x.rows.length)) v':=hR.val;cases hv;exact⟨rfl,hR.below⟩
  ·match j,U with
   | 0,U =>
    injection U with U;subst U
    refine⟨u,rfl,?_⟩;have:=yv (P:=f4) (z:=x) (show bk f4 93=some (jF 4) from by kernel_rfl) hO;exact this.mono fun b o z h1 h2=>⟨h2,by
     change o<(if B=some b then x.rows.length*4 else 0) at h1;show o<(if B=some b then x.rows.length*4 else prot b)
     split at h1
     ·rw[j8 ‹_›];exact h1
     ·omega⟩
   | 1,U =>
    injection U with U;subst U
    refine⟨_,rfl,Y,rfl,a4,fun j c hc=>?_⟩
    match j,hc with
    | 0,hc =>
     injection hc with hc;subst hc
     exact a2 w _ (aI.refl w B)
  ·show (if B=some b then _ else prot b)=0;rw[i7 (fun e=>by have:=oI hO b e;omega)];exact a8 b hb
 ·intro J x0 x1 x2 Z hC;have hs:=rQ [⟨ag cV,[.i x0,.i x1,.i x2,.i Z]⟩,⟨.one (.c (.cptr [si] 0)),[q 0 0 0]⟩] ⟨rb,[.b (C [.i x0,.i x1,.i x2,.i Z])]⟩ rfl;have hs:=(hs.n rfl).2 J (fun _=>0) (#[.agg #[.int .i64 x0,.int .i64 x1,.int .i64 x2,.int .i64 Z]]++Y) ⟨by rw[A9,a4];rfl,fun j t U=>?_⟩ (fun b hb=>rfl)
  ·refine hs.mono ?_;rintro ex w' ⟨v',g',rfl,hR⟩;have hv:VD f4 w' g'.prot .bool (.b (C [.i x0,.i x1,.i x2,.i Z])) v':=hR.val;cases hv;exact⟨rfl,hR.below⟩
  ·match j,U with
   | 0,U =>
    injection U with U;subst U
    refine⟨.agg #[.int .i64 x0,.int .i64 x1,.int .i64 x2,.int .i64 Z],r9 (xs:= #[Value.agg #[.int .i64 x0,.int .i64 x1,.int .i64 x2,.int .i64 Z]]) (i:=0) (by show 0<1;omega),#[.int .i64 x0,.int .i64 x1,.int .i64 x2,.int .i64 Z],rfl,rfl,fun j cc O=>?_⟩
    match j,O with
    | 0,O=>injection O with O;subst O;exact⟨_,rfl,.int .i64 (.i x0)⟩
    | 1,O=>injection O with O;subst O;exact⟨_,rfl,.int .i64 (.i x1)⟩
    | 2,O=>injection O with O;subst O;exact⟨_,rfl,.int .i64 (.i x2)⟩
    | 3,O=>injection O with O;subst O;exact⟨_,rfl,.int .i64 (.i Z)⟩
   | 1,U =>
    injection U with U;subst U
    obtain⟨z,h1,h2⟩:=a2 J (fun _=>0) hC;refine⟨z,?_,h2⟩;exact (A4 (xs:= #[Value.agg #[.int .i64 x0,.int .i64 x1,.int .i64 x2,.int .i64 Z]]) (i:=1) (by show 1<=1;omega)).trans h1
set_option maxRecDepth 4096
set_option maxHeartbeats 1000000
abbrev Qi:=find [pA,fQ,vR,Ro]
abbrev Qo:=[0,1,2,4,5,6,14]
theorem Wv(N:Nat)(p q r:b8):aZ f4 Qi N Qo Tryz.f178 (.one (.c (.own (0,0) true 108))) [⟨sd (.sl 108),p⟩,⟨ag ay,q⟩,⟨rb,r⟩]=some (bo,
 bif !(aN (p 0)) then some (1,[.l []])
 else bif !(ar (sub q 0 2)) then some (1,[.l []])
 else nd (leI (p 0) 1000000) (some (1,[Zu (.l (p 0).rows) (.l [[.l [sub q 0 2],.l [[r 0]]]])]))):=by kernel_rfl
def ma(z:D)(a:b8)(inn:D):D:=bif aN z&&ar (sub a 0 2) then Zu (.l z.rows) (.l [[.l [sub a 0 2],.l [[inn]]]]) else .l []
def Qz:Ent:=(178,e3 (sd (.sl 108)) (ag ay) rb fun p q r=>(⟨.one (.c (.own (0,0) true 108)),[ma (p 0) q (r 0)]⟩,true))
theorem UZ:aw f4 Qz:=em fun p q r h=>aq (N:=0) (ks:=Qo) (ap (fC ⟨oc,fC ⟨eV,fC ⟨tU,fC ⟨Ve,fN⟩⟩⟩⟩)) Tryz.func178 fun hw=>by
 rw[Wv];refine congrArg (fun x=>some (bo,x)) ?_;show _=some (1,[ma (p 0) q (r 0)]);unfold ma;cases h1:aN (p 0) with
 | false=>rfl
 | true =>
  cases ar (sub q 0 2) with
  | false=>rfl
  | true =>rw[show leI (p 0) 1000000=true from bb (by have J:(p 0:Int)<=60:=j9 ((a9 _ _).mp h1).2;omega)];rfl
abbrev Dc:=find [Qz]
abbrev Db:=[0,1,3,4]
theorem KT(N:Nat)(p q:b8):aZ f4 Dc N Db Tryz.f51 (.one (.c (.own (0,0) true 108))) [⟨sd (.sl 108),p⟩,⟨ag ay,q⟩]=some (bo,
 some (1,[ma (p 0) (sub q 0 2) (.b true)])):=by kernel_rfl
def ud:Ent:=(51,e2 (sd (.sl 108)) (ag ay) fun p q=>(⟨.one (.c (.own (0,0) true 108)),[ma (p 0) q (.b true)]⟩,true))
theorem xV:aw f4 ud:=bj fun p q h=>aq (N:=0) (ks:=Db) (ap (fC ⟨UZ,fN⟩)) Tryz.func51 fun hw=>by rw[KT];rfl
abbrev CK:=find [lM,mt,QA]
abbrev Eh:=[0,1,3,4,7]
theorem LJ(N:Nat)(p q:b8):aZ f4 CK N Eh Tryz.f78 (.one (.c (.own (0,0) true 93))) [⟨sd (.sl 93),p⟩,⟨ri,q⟩]=some (bo,
 bif !(aR (p 0)) then some (1,[.l []])
 else nd (leI (p 0) 2000000) (some (1,[Yl (.l (p 0).rows) (.l [[.l [[q 0]]]])]))):=by kernel_rfl
def jg(z n:D):D:=bif aR z then Yl (.l z.rows) (.l [[.l [[n]]]]) else .l []
def SB:Ent:=(78,e2 (sd (.sl 93)) ri fun p q=>(⟨.one (.c (.own (0,0) true 93)),[jg (p 0) (q 0)]⟩,true))
theorem NB:aw f4 SB:=bj fun p q h=>aq (N:=0) (ks:=Eh) (ap (fC ⟨kG,fC ⟨mr,fC ⟨Vz,fN⟩⟩⟩)) Tryz.func78 fun hw=>by
 rw[LJ];refine congrArg (fun x=>some (bo,x)) ?_;show _=some (1,[jg (p 0) (q 0)]);unfold jg;cases h1:aR (p 0) with
 | false=>rfl
 | true =>rw[show leI (p 0) 2000000=true from bb (by have J:(p 0:Int)<=40:=j9 ((a9 _ _).mp h1).2;omega)];rfl
abbrev My:=find [jE,og,eI]
abbrev Kx:=[0,1,2,3,5,6,7,21]
theorem Tn(N:Nat)(p q r:b8):aZ f4 My N Kx Tryz.f59 ri [⟨ag aK,p⟩,⟨ri,q⟩,⟨ag ay,r⟩]=some (bo,
 bif !(aY (sub p 0 9)) then oi 1
 else bif !(inB (q 0).int 1 1000000) then oi 1
 else bif !(ar (sub r 0 2)) then oi 1
 else bif ltI (q 0).int (p 8).int then oi 2
 else oi 0):=by kernel_rfl
def au(p q r:b8):Int:=
 bif !(aY (sub p 0 9)) then 1
 else bif !(inB (q 0).int 1 1000000) then 1
 else bif !(ar (sub r 0 2)) then 1
 else bif ltI (q 0).int (p 8).int then 2
 else 0
def pP:Ent:=(59,e3 (ag aK) ri (ag ay) fun p q r=>(⟨ri,[.i (au p [q 0] r)]⟩,true))
theorem nV:aw f4 pP:=em fun p q r h=>aq (N:=0) (ks:=Kx) (ap (fC ⟨iN,fC ⟨lN,fC ⟨dy,fN⟩⟩⟩)) Tryz.func59 fun hw=>by
 rw[Tn]
 try simp only[dd,de,db]
 rfl
abbrev Mc:=find [lS,nS,fQ]
abbrev LE:=[0,1,2,3,5,6,7,21]
theorem Se(N:Nat)(p q r:b8):aZ f4 Mc N LE Tryz.f72 ri [⟨ag aK,p⟩,⟨ri,q⟩,⟨ag ay,r⟩]=some (bo,
 nd (bE (sub p 0 9)) (bif !(aY (sub p 0 9)) then oi 1
 else bif !(inB (q 0).int 1 1000000) then oi 1
 else bif !(ar (sub r 0 2)) then oi 1
 else bif ltI (q 0).int (p 8).int then oi 2
 else oi 0)):=by kernel_rfl
def zQ:Ent:=(72,e3 (ag aK) ri (ag ay) fun p q r=>(⟨ri,[.i (au p [q 0] r)]⟩,bE p))
theorem BZ:aw f4 zQ:=em fun p q r h=>aq (N:=0) (ks:=LE) (ap (fC ⟨lc,fC ⟨jS,fC ⟨eV,fN⟩⟩⟩)) Tryz.func72 fun hw=>by rw[Se];have h:bE (sub p 0 9)=true:=h;rw[h];unfold au;rw[show gd [q 0] 0=q 0 from rfl];cases aY (sub p 0 9) <;> cases inB (q 0).int 1 1000000 <;> cases ar (sub r 0 2) <;> cases ltI (q 0).int (p 8).int <;> rfl
abbrev QV:=find [oL,Xs]
abbrev Rf:=[0,1,2,4]
theorem UT(N:Nat)(p q:b8):aZ f4 QV N Rf Tryz.f110 rb [⟨ag aK,p⟩,⟨ri,q⟩]=some (bo,
 nd (leI (p 5) 1000000000) (ob (aA (aB (p 5)) (q 0).int))):=by kernel_rfl
def yr:Ent:=(110,e2 (ag aK) ri fun p q=>(⟨rb,[.b (aA (aB (p 5)) (q 0).int)]⟩,leI (p 5) 1000000000))
theorem ww:aw f4 yr:=bj fun p q h=>aq (N:=0) (ks:=Rf) (ap (fC ⟨lP,fC ⟨Ap,fN⟩⟩)) Tryz.func110 fun hw=>by rw[UT];have h:leI (p 5) 1000000000=true:=h;rw[h];rfl
abbrev An:=find []
theorem OM:av f4 An:=ap (fN)
abbrev Ah:=[0,1,2,4,5,10,20]
def my(N:Nat)(p q:b8):b8->Out:=bc f4 An N Ah Tryz.f66 rb [⟨ag aK,p⟩,⟨ri,q⟩] 0
theorem Ik(N:Nat)(p q:b8)(x0 x1 x2 x3 x4 x5 x6 x7 x8 x9 a1 V J a0 a4 Z a3 a5 O U a2 Y:D):(my N p q) [x0,x1,x2,x3,x4,x5,x6,x7,x8,x9,a1,V,J,a0,a4,Z,a3,a5,O,U,a2,Y] =
 bif ltI J.int O then nd (al J.int O.rows.length) (bif (O.rows.getD J.int.toNat [] 0).int==x9.int then ob true
 else nx [x0,x1,x2,x3,x4,x5,x6,x7,x8,x9,a1,V,.i (w64 (J.int+1)),a0,a4,Z,a3,a5,O,U,a2,Y])
 else ex 0 [x0,x1,x2,x3,x4,x5,x6,x7,x8,x9,a1,V,J,a0,a4,Z,a3,a5,O,U,a2,Y]:=by kernel_rfl
theorem SV(N:Nat)(p q:b8):aZ f4 An N Ah Tryz.f66 rb [⟨ag aK,p⟩,⟨ri,q⟩]=some (bo,
 (let J:=ba (my N p q) N [p 0,p 1,p 2,p 3,p 4,p 5,p 6,p 7,p 8,q 0,.i 0,.i 0,.i 0,p 0,p 1,p 2,p 3,p 4,p 5,p 6,p 7,p 8]
  nd J.isSome (bif J.code==1 then some (1,J.pay)
  else nd (J.code==2) (ob false)))):=by kernel_rfl
def fV(z:D)(n:Int):Bool:=(List.range z.rows.length).any fun k=>(z.rows.getD k [] 0).int==n
def uB:Ent:=(66,e2 (ag aK) ri fun p q=>(⟨rb,[.b (fV (p 5) (q 0).int)]⟩,leI (p 5) 1000000000))
theorem tT:aw f4 uB:=bj fun p q h=>aq (N:=(p 5).rows.length+1) (ks:=Ah) OM Tryz.func66 fun hw=>by
 rw[SV];have h:leI (p 5) 1000000000=true:=h;have hn:(p 5:Int)<=1000000000:=j9 h;have e:=UP (L:=my ((p 5).rows.length+1) p q) (fun k => [p 0,p 1,p 2,p 3,p 4,p 5,p 6,p 7,p 8,q 0,.i 0,.i 0,.i (k:Int),p 0,p 1,p 2,p 3,p 4,p 5,p 6,p 7,p 8]) (p 5).rows.length (fun k=>(p 5 k 0).int==(q 0).int) [.b true] 0 (fun k hk=>?_) ?_ (N:=(p 5).rows.length+1) (by omega)
 ·simp only[g9] at e;rw[e];show some (bo,_)=some (bo,some (1,[D.b (fV (p 5) (q 0).int)]));unfold fV;cases (List.range (p 5).rows.length).any fun k=>(p 5 k 0).int==(q 0).int <;> rfl
 ·show my _ p q [_,_,_,_,_,_,_,_,_,_,_,_,.i (k:Int),_,_,_,_,_,_,_,_,_]=_;rw[Ik];simp only[aE,cy hk,bn hk,aF hk (show (p 5).rows.length<=9223372036854775807 by omega),g4];cases (p 5 k 0).int==(q 0).int <;> rfl
 ·show my _ p q [_,_,_,_,_,_,_,_,_,_,_,_,.i (p 5:Int),_,_,_,_,_,_,_,_,_]=_;rw[Ik];simp only[aE,bF]
abbrev Aj:=find []
theorem PF:av f4 Aj:=ap (fN)
abbrev AC:=[0,1,2,6,7,8,13,24]
def mw(N:Nat)(p q r:b8):b8->Out:=bc f4 Aj N AC Tryz.f144 (.one (.c (.d (.sl 93)))) [⟨sd (.sl 93),p⟩,⟨ri,q⟩,⟨rb,r⟩] 0
theorem Is(N:Nat)(p q r:b8)(J V Y Z U O:D):(mw N p q r) [J,V,Y,Z,U,O] =
 bif ltI O.int J then nd (al O.int J.rows.length) (bif ((J.rows.getD O.int.toNat [] 0).int==V.int)==Y.bool then nd (al O.int J.rows.length) (nd (bq (U.rows ++ [sub (J.rows.getD O.int.toNat []) 0 4])&&true) (nx [J,V,Y,Z,.l (U.rows ++ [sub (J.rows.getD O.int.toNat []) 0 4]),.i (w64 (O.int+1))]))
 else nx [J,V,Y,Z,U,.i (w64 (O.int+1))])
 else ex 0 [J,V,Y,Z,U,O]:=by kernel_rfl
theorem Tj(N:Nat)(p q r:b8):aZ f4 Aj N AC Tryz.f144 (.one (.c (.d (.sl 93)))) [⟨sd (.sl 93),p⟩,⟨ri,q⟩,⟨rb,r⟩]=some (bo,
 (let J:=ba (mw N p q r) N [p 0,q 0,r 0,.l [],.l [],.i 0]
  nd J.isSome (nd (J.code==2) (some (1,[J.pay 4]))))):=by kernel_rfl
def kpL(C:Nat->Bool)(f:Nat->b8):Nat->List b8
 | 0 => []
 | k+1=>bif C k then kpL C f k ++ [f k] else kpL C f k
theorem fX(C:Nat->Bool)(f:Nat->b8):∀k,(kpL C f k).length<=k
 | 0=>g8 _
 | k+1=>by have:=fX C f k;rw[kpL];cases C k <;> simp <;> omega
def iX(z:D)(n:Int)(own:Bool):D:=.l (kpL (fun k=>((z.rows.getD k [] 0).int==n)==own) (fun k=>sub (z.rows.getD k []) 0 4) z.rows.length)
def uq:Ent:=(144,e3 (sd (.sl 93)) ri rb fun p q r=>(⟨.one (.c (.d (.sl 93))),[iX (p 0) (q 0).int (r 0).bool]⟩,leI (p 0) 1000000000))
theorem tn:aw f4 uq:=em fun p q r h=>aq (N:=(p 0).rows.length+1) (ks:=AC) PF Tryz.func144 fun hw=>by
 rw[Tj];have h:leI (p 0) 1000000000=true:=h;have hn:(p 0:Int)<=1000000000:=j9 h;have e:=bM (L:=mw ((p 0).rows.length+1) p q r) (fun k => [p 0,q 0,r 0,.l [],.l (kpL (fun k=>((p 0 k 0).int==(q 0).int)==(r 0).bool) (fun k=>sub (p 0 k) 0 4) k),.i (k:Int)]) (p 0).rows.length 0 (fun k hk=>?_) ?_ (N:=(p 0).rows.length+1) (by omega)
 ·simp only[g9] at e;rw[kpL] at e;rw[e];rfl
 ·show mw _ p q r [_,_,_,_,_,.i (k:Int)]=_;rw[Is];have J:=fX (fun k=>((p 0 k 0).int==(q 0).int)==(r 0).bool) (fun k=>sub (p 0 k) 0 4) k;simp only[aE,bp,cy hk,bn hk,g4,aF hk (by omega),bL (show (kpL (fun k=>((p 0 k 0).int==(q 0).int)==(r 0).bool) (fun k=>sub (p 0 k) 0 4) k ++ [sub (p 0 k) 0 4]).length<=4294967296 by rw[i5];show _+1<=_;omega)];simp only[kpL];cases ((p 0 k 0).int==(q 0).int)==(r 0).bool <;> rfl
 ·show mw _ p q r [_,_,_,_,_,.i (p 0:Int)]=_;rw[Is];simp only[aE,bF]
abbrev Au:=find [jr,eI,og]
abbrev zR:=[0,1,2,4,6,7,8,21,36]
def jO(N:Nat)(p q r:b8):b8->Out:=bc f4 Au N zR Tryz.f189 (.one (.c (.d (.sl 108)))) [⟨sd (.sl 108),p⟩,⟨ag ay,q⟩,⟨rb,r⟩] 0
theorem xJ(N:Nat)(p q r:b8)(J x1 x2 Z x4 x5 Y O U V:D):(jO N p q r) [J,x1,x2,Z,x4,x5,Y,O,U,V] =
 bif ltI O.int J then bif aN J then bif ar [U,V] then nd (al O.int J.rows.length) (bif (inB (J.rows.getD O.int.toNat [] 0).int U.int (w64 (V.int - 1)))==Z.bool then nd (al O.int J.rows.length) (nd (bq (Y.rows ++ [sub (J.rows.getD O.int.toNat []) 0 2])&&true) (nx [J,x1,x2,Z,x4,x5,.l (Y.rows ++ [sub (J.rows.getD O.int.toNat []) 0 2]),.i (w64 (O.int+1)),U,V]))
 else nx [J,x1,x2,Z,x4,x5,Y,.i (w64 (O.int+1)),U,V])
 else ex 0 [J,x1,x2,Z,x4,x5,Y,O,U,V]
 else ex 0 [J,x1,x2,Z,x4,x5,Y,O,U,V]
 else ex 0 [J,x1,x2,Z,x4,x5,Y,O,U,V]:=by kernel_rfl
theorem Tl(N:Nat)(p q r:b8):aZ f4 Au N zR Tryz.f189 (.one (.c (.d (.sl 108)))) [⟨sd (.sl 108),p⟩,⟨ag ay,q⟩,⟨rb,r⟩]=some (bo,
 (let J:=ba (jO N p q r) N [p 0,q 0,q 1,r 0,.i 0,.l [],.l [],.i 0,q 0,q 1]
  nd J.isSome (nd (J.code==2) (some (1,[J.pay 6]))))):=by kernel_rfl
def fg(z:D)(a:b8)(inn:Bool):D:=.l (bif aN z&&ar (sub a 0 2) then kpL (fun k=>(inB (z.rows.getD k [] 0).int (a 0).int (w64 ((a 1).int - 1)))==inn) (fun k=>sub (z.rows.getD k []) 0 2) z.rows.length else[])
def Ac:Ent:=(189,e3 (sd (.sl 108)) (ag ay) rb fun p q r=>(⟨.one (.c (.d (.sl 108))),[fg (p 0) q (r 0).bool]⟩,leI (p 0) 1000000000))
theorem DU:aw f4 Ac:=em fun p q r h=>aq (N:=(p 0).rows.length+1) (ks:=zR) (ap (fC ⟨iB,fC ⟨dy,fC ⟨lN,fN⟩⟩⟩)) Tryz.func189 fun hw=>by
 rw[Tl];have h:leI (p 0) 1000000000=true:=h;have hn:(p 0:Int)<=1000000000:=j9 h;cases hs:aN (p 0)&&ar (sub q 0 2) with
 | true =>
  obtain⟨h1,J⟩:=(a9 _ _).mp hs;have J:ar [q 0,q 1]=true:=J;have e:=bM (L:=jO ((p 0).rows.length+1) p q r) (fun k => [p 0,q 0,q 1,r 0,.i 0,.l [],.l (kpL (fun k=>(inB (p 0 k 0).int (q 0).int (w64 ((q 1).int - 1)))==(r 0).bool) (fun k=>sub (p 0 k) 0 2) k),.i (k:Int),q 0,q 1]) (p 0).rows.length 0 (fun k hk=>?_) ?_ (N:=(p 0).rows.length+1) (by omega)
  ·simp only[g9] at e;rw[kpL] at e;rw[e];show some (bo,some (1,[D.l _]))=some (bo,some (1,[fg (p 0) q (r 0).bool]));unfold fg;rw[hs];rfl
  ·show jO _ p q r [_,_,_,_,_,_,_,.i (k:Int),_,_]=_;rw[xJ];have O:=fX (fun k=>(inB (p 0 k 0).int (q 0).int (w64 ((q 1).int - 1)))==(r 0).bool) (fun k=>sub (p 0 k) 0 2) k;simp only[aE,bp,cy hk,h1,J,f8,bn hk,g4,aF hk (show (p 0).rows.length<=9223372036854775807 by omega),bL (show (kpL (fun k=>(inB (p 0 k 0).int (q 0).int (w64 ((q 1).int - 1)))==(r 0).bool) (fun k=>sub (p 0 k) 0 2) k ++ [sub (p 0 k) 0 2]).length<=4294967296 by rw[i5];show _+1<=_;omega)];simp only[kpL];cases (inB (p 0 k 0).int (q 0).int (w64 ((q 1).int - 1)))==(r 0).bool <;> rfl
  ·show jO _ p q r [_,_,_,_,_,_,_,.i (p 0:Int),_,_]=_;rw[xJ];simp only[aE,bF]
 | false =>
  have e:jO ((p 0).rows.length+1) p q r [p 0,q 0,q 1,r 0,.i 0,.l [],.l [],.i 0,q 0,q 1]=some (2,[p 0,q 0,q 1,r 0,.i 0,.l [],.l [],.i 0,q 0,q 1]):=by
   rw[xJ];have hs:(aN (p 0)&&ar [q 0,q 1])=false:=hs;cases hz:ltI (D.i 0).int (p 0:Int) with
   | false=>rfl
   | true =>
    cases h1:aN (p 0) with
    | false=>rfl
    | true =>rw[h1,s8] at hs;rw[hs];rfl
  rw[kN (c:=1) e];show some (bo,some (1,[D.l []]))=some (bo,some (1,[fg (p 0) q (r 0).bool]));unfold fg;rw[hs];rfl
abbrev EO:=find [Ac]
abbrev Ek:=[0,1,3,4]
theorem Oa(N:Nat)(p q:b8):aZ f4 EO N Ek Tryz.f68 (.one (.c (.d (.sl 108)))) [⟨sd (.sl 108),p⟩,⟨ag ay,q⟩]=some (bo,
 nd (leI (p 0) 1000000000) (some (1,[fg (p 0) (sub q 0 2) true]))):=by kernel_rfl
def th:Ent:=(68,e2 (sd (.sl 108)) (ag ay) fun p q=>(⟨.one (.c (.d (.sl 108))),[fg (p 0) q true]⟩,leI (p 0) 1000000000))
theorem xf:aw f4 th:=bj fun p q h=>aq (N:=0) (ks:=Ek) (ap (fC ⟨DU,fN⟩)) Tryz.func68 fun hw=>by rw[Oa];have h:leI (p 0) 1000000000=true:=h;rw[h];rfl
abbrev FC:=find []
theorem Tg:av f4 FC:=ap (fN)
abbrev Fk:=[0,1,4,5,6,7,12,24,34,43,3000002,3000008]
def dW(N:Nat)(p q:b8):b8->Out:=bc f4 FC N Fk Tryz.f146 (.one (.c (.d (.sl 3)))) [⟨sd (.sl 3),p⟩,⟨ri,q⟩] 0
theorem Mr(N:Nat)(p q:b8)(O V x2 Y Z U:D):(dW N p q) [O,V,x2,Y,Z,U] =
 bif ltI U.int O then bif !Z.bool then nd (al U.int O.rows.length) (bif leI V.int (O.rows.getD U.int.toNat [] 0).int then nd (bq (Y.rows ++ [[V]])&&true) ((let J:Out:=nx [O,V,x2,.l (Y.rows ++ [[V]]),.b true,U,.b (ltI U.int O),.b (leI V.int (O.rows.getD U.int.toNat [] 0).int)]
  nd J.isSome (nd (al (J.pay 5).int (J.pay 0).rows.length) (bif (((J.pay 0).rows.getD (J.pay 5).int.toNat []) 0).int != (J.pay 1).int then nd (al (J.pay 5).int (J.pay 0).rows.length) (nd (bq ((J.pay 3).rows ++ [[((J.pay 0).rows.getD (J.pay 5).int.toNat []) 0]])&&true) (nx [J.pay 0,J.pay 1,J.pay 2,.l ((J.pay 3).rows ++ [[((J.pay 0).rows.getD (J.pay 5).int.toNat []) 0]]),J.pay 4,.i (w64 ((J.pay 5).int+1))]))
  else nx [J.pay 0,J.pay 1,J.pay 2,J.pay 3,J.pay 4,.i (w64 ((J.pay 5).int+1))]))))
 else nd (al U.int O.rows.length) (bif (O.rows.getD U.int.toNat [] 0).int != V.int then nd (al U.int O.rows.length) (nd (bq (Y.rows ++ [[O.rows.getD U.int.toNat [] 0]])&&true) (nx [O,V,x2,.l (Y.rows ++ [[O.rows.getD U.int.toNat [] 0]]),Z,.i (w64 (U.int+1))]))
 else nx [O,V,x2,Y,Z,.i (w64 (U.int+1))]))
 else nd (al U.int O.rows.length) (bif (O.rows.getD U.int.toNat [] 0).int != V.int then nd (al U.int O.rows.length) (nd (bq (Y.rows ++ [[O.rows.getD U.int.toNat [] 0]])&&true) (nx [O,V,x2,.l (Y.rows ++ [[O.rows.getD U.int.toNat [] 0]]),Z,.i (w64 (U.int+1))]))
 else nx [O,V,x2,Y,Z,.i (w64 (U.int+1))])
 else ex 0 [O,V,x2,Y,Z,U]:=by kernel_rfl
theorem VR(N:Nat)(p q:b8):aZ f4 FC N Fk Tryz.f146 (.one (.c (.d (.sl 3)))) [⟨sd (.sl 3),p⟩,⟨ri,q⟩]=some (bo,
 (let O:Out:=nx [p 0,q 0,.l [],.l [],.b false]
  nd O.isSome ((let J:=ba (dW N p q) N [O.pay 0,O.pay 1,O.pay 2,O.pay 3,O.pay 4,.i 0]
  nd J.isSome (nd (J.code==2) (bif !(J.pay 4).bool then nd (bq ((J.pay 3).rows ++ [[J.pay 1]])&&true) (some (1,[.l ((J.pay 3).rows ++ [[J.pay 1]])]))
  else some (1,[J.pay 3]))))))):=by kernel_rfl
def fi(z n:D):Nat->List b8 × Bool
 | 0=>([],false)
 | k+1 =>(bif (z.rows.getD k [] 0).int != n.int then (bif !(fi z n k).2&&leI n.int (z.rows.getD k [] 0).int then (fi z n k).1 ++ [[n]] else (fi z n k).1) ++ [[z.rows.getD k [] 0]] else (bif !(fi z n k).2&&leI n.int (z.rows.getD k [] 0).int then (fi z n k).1 ++ [[n]] else (fi z n k).1),(fi z n k).2||leI n.int (z.rows.getD k [] 0).int)
theorem KY(z n:D):∀k,(fi z n k).1.length<=2*k
 | 0=>g8 _
 | k+1=>by have:=KY z n k;rw[fi];cases (z k 0).int != n.int <;> cases (fi z n k).2 <;> cases leI n.int (z k 0).int <;> simp <;> omega
def bC(z n:D):D:=.l (bif (fi z n z.rows.length).2 then (fi z n z.rows.length).1 else (fi z n z.rows.length).1 ++ [[n]])
def yt:Ent:=(146,e2 (sd (.sl 3)) ri fun p q=>(⟨.one (.c (.d (.sl 3))),[bC (p 0) (q 0)]⟩,leI (p 0) 1000000000))
theorem xT:aw f4 yt:=bj fun p q h=>aq (N:=(p 0).rows.length+1) (ks:=Fk) Tg Tryz.func146 fun hw=>by
 rw[VR];have h:leI (p 0) 1000000000=true:=h;have hn:(p 0:Int)<=1000000000:=j9 h;have e:=bM (L:=dW ((p 0).rows.length+1) p q) (fun k => [p 0,q 0,.l [],.l (fi (p 0) (q 0) k).1,.b (fi (p 0) (q 0) k).2,.i (k:Int)]) (p 0).rows.length 0 (fun k hk=>?_) ?_ (N:=(p 0).rows.length+1) (by omega)
 ·simp only[g9] at e;rw[show (fi (p 0) (q 0) 0).1 = [] from rfl,show (fi (p 0) (q 0) 0).2=false from rfl] at e;show some (bo,nd true (nd (ba (dW ((p 0).rows.length+1) p q) ((p 0).rows.length+1) [p 0,q 0,.l [],.l [],.b false,.i 0]).isSome (nd ((ba (dW ((p 0).rows.length+1) p q) ((p 0).rows.length+1) [p 0,q 0,.l [],.l [],.b false,.i 0]).code==2) (bif !((ba (dW ((p 0).rows.length+1) p q) ((p 0).rows.length+1) [p 0,q 0,.l [],.l [],.b false,.i 0]).pay 4).bool then nd (bq (((ba (dW ((p 0).rows.length+1) p q) ((p 0).rows.length+1) [p 0,q 0,.l [],.l [],.b false,.i 0]).pay 3).rows ++ [[(ba (dW ((p 0).rows.length+1) p q) ((p 0).rows.length+1) [p 0,q 0,.l [],.l [],.b false,.i 0]).pay 1]])&&true) (some (1,[.l (((ba (dW ((p 0).rows.length+1) p q) ((p 0).rows.length+1) [p 0,q 0,.l [],.l [],.b false,.i 0]).pay 3).rows ++ [[(ba (dW ((p 0).rows.length+1) p q) ((p 0).rows.length+1) [p 0,q 0,.l [],.l [],.b false,.i 0]).pay 1]])])) else some (1,[(ba (dW ((p 0).rows.length+1) p q) ((p 0).rows.length+1) [p 0,q 0,.l [],.l [],.b false,.i 0]).pay 3])))))=_;rw[e];have J:=KY (p 0) (q 0) (p 0).rows.length;show some (bo,bif !(fi (p 0) (q 0) (p 0).rows.length).2 then nd (bq ((fi (p 0) (q 0) (p 0).rows.length).1 ++ [[q 0]])&&true) (some (1,[.l ((fi (p 0) (q 0) (p 0).rows.length).1 ++ [[q 0]])])) else some (1,[.l (fi (p 0) (q 0) (p 0).rows.length).1]))=some (bo,some (1,[bC (p 0) (q 0)]));rw[bL (by rw[i5];show _+1<=_;omega)];unfold bC;cases (fi (p 0) (q 0) (p 0).rows.length).2 <;> rfl
 ·show dW _ p q [_,_,_,_,_,.i (k:Int)]=_;rw[Mr];have J:=KY (p 0) (q 0) k;have V:bq ((fi (p 0) (q 0) k).1 ++ [[q 0]])=true:=bL (by rw[i5];show _+1<=_;omega);have Y:bq ((fi (p 0) (q 0) k).1 ++ [[p 0 k 0]])=true:=bL (by rw[i5];show _+1<=_;omega);have U:bq ((fi (p 0) (q 0) k).1 ++ [[q 0]] ++ [[p 0 k 0]])=true:=bL (by rw[i5,i5];show _+1+1<=_;omega);have hin:=bP hk;have hw:=aF hk (show (p 0).rows.length<=9223372036854775807 by omega);have g0:∀(a b c d e f g h:D),gd [a,b,c,d,e,f,g,h] 0=a:=fun _ _ _ _ _ _ _ _=>rfl
  simp only[aE,bp,gX,cy hk,bn hk,g4,hw,V,Y];rw[fi];cases hp:(fi (p 0) (q 0) k).2 with
  | true =>cases O:(p 0 k 0).int != (q 0).int <;> rfl
  | false =>
   cases Z:leI (q 0).int (p 0 k 0).int with
   | false=>cases O:(p 0 k 0).int != (q 0).int <;> rfl
   | true =>show nd (al (k:Int) (p 0).rows.length) (bif (p 0 (k:Int).toNat 0).int != (q 0).int then nd (al (k:Int) (p 0).rows.length) (nd (bq ((fi (p 0) (q 0) k).1 ++ [[q 0]] ++ [[p 0 (k:Int).toNat 0]])&&true) (nx [p 0,q 0,.l [],.l ((fi (p 0) (q 0) k).1 ++ [[q 0]] ++ [[p 0 (k:Int).toNat 0]]),.b true,.i (w64 ((k:Int)+1))])) else nx [p 0,q 0,.l [],.l ((fi (p 0) (q 0) k).1 ++ [[q 0]]),.b true,.i (w64 ((k:Int)+1))])=_;simp only[bn hk,g4,hw,U];cases O:(p 0 k 0).int != (q 0).int <;> rfl
 ·show dW _ p q [_,_,_,_,_,.i (p 0:Int)]=_;rw[Mr];simp only[aE,bF]
theorem QG(z n:D):∀k,(fi z n k).1.length<=k+(fi z n k).2.toNat
 | 0=>g8 _
 | k+1=>by have:=QG z n k;rw[fi];revert this;cases (z k 0).int != n.int <;> cases (fi z n k).2 <;> cases leI n.int (z k 0).int <;> simp <;> omega
theorem qz(z n:D):(bC z n).rows.length<=z.rows.length+1:=by have:=QG z n z.rows.length;unfold bC;revert this;cases (fi z n z.rows.length).2 <;> simp[bp] <;> omega
theorem Fy(z:D)(n:Int)(own:Bool):(iX z n own).rows.length<=z.rows.length:=fX _ _ _
def fp(l w z:D):Nat->D × D
 | 0=>(l,w)
 | k+1=>(iX (fp l w z k).1 (z.rows.getD k [] 0).int false,bC (fp l w z k).2 (z.rows.getD k [] 0))
theorem Bi(l w z:D):∀k,(fp l w z k).1.rows.length<=l.rows.length/\(fp l w z k).2.rows.length<=w.rows.length+k
 | 0=>⟨g8 _,g8 _⟩
 | k+1=>by obtain⟨h1,U⟩:=Bi l w z k;have J:=Fy (fp l w z k).1 (gd (z.rows.getD k []) 0).int false;have O:=qz (fp l w z k).2 (gd (z.rows.getD k []) 0);rw[fp];exact⟨by show (iX _ _ _).rows.length<=_;omega,by show (bC _ _).rows.length<=_;omega⟩
def eo(p:b8)(z:D):b8:= [p 0,p 1,p 2,p 3,(fp (p 4) (p 6) z z.rows.length).1,p 5,(fp (p 4) (p 6) z z.rows.length).2,p 7,p 8]
def VG(l:List Int)(n:Int):List Int:=l.filter (fun x=>decide (x<n))++n::l.filter (fun x=>decide (n<x))
theorem sA{l:List Int}{n m:Int}:m∈VG l n↔m=n\/m∈l:=by
 simp only[VG,m7,t8,A2,f7];constructor
 ·rintro (h | h | h)
  ·exact .inr h.1
  ·exact .inl h
  ·exact .inr h.1
 ·rintro (h | h)
  ·exact .inr (.inl h)
  ·rcases H9 m n with h1 | h1 | h1
   ·exact .inl ⟨h,h1⟩
   ·exact .inr (.inl h1)
   ·exact .inr (.inr ⟨h,h1⟩)
theorem Lp{l:List Int}(h:l.Pairwise (· < ·))(n:Int):(VG l n).Pairwise (· < ·):=by
 unfold VG;rw[C1,G9];refine⟨h.filter _,⟨fun a J=>?_,h.filter _⟩,fun a J b O=>?_⟩
 ·simpa using (t8.1 J).2
 ·have h1:a<n:=by simpa using (t8.1 J).2
  rcases A2.1 O with rfl | O
  ·exact h1
  ·have U:n<b:=by simpa using (t8.1 O).2
   omega
theorem RR:∀ {a b:List Int},a.Pairwise (· < ·)->b.Pairwise (· < ·)->(∀x,x∈a↔x∈b)->a=b
 | [],[],_,_,_=>rfl
 | [],y::b,_,_,h=>absurd ((h y).2 (by simp)) (by simp)
 | x::a,[],_,_,h=>absurd ((h x).1 (by simp)) (by simp)
 | x::a,y::b,ha,hb,h=>by
  rw[G9] at ha hb;have O:x=y:=by
   have h1:=(h x).1 (by simp);have J:=(h y).2 (by simp);rcases A2.1 h1 with h1 | h1
   ·exact h1
   ·rcases A2.1 J with J | J
    ·exact J.symm
    ·have U:=hb.1 x h1;have V:=ha.1 y J;omega
  subst O;rw[RR ha.2 hb.2 fun z=>?_];constructor
  ·intro hz;rcases A2.1 ((h z).1 (M9 _ hz)) with h1 | h1
   ·have:=ha.1 z hz;omega
   ·exact h1
  ·intro hz;rcases A2.1 ((h z).2 (M9 _ hz)) with h1 | h1
   ·have:=hb.1 z hz;omega
   ·exact h1
theorem Bx{l:List Int}{k:Nat}{x:Int}(h:l[k]?=some x):l.take (k+1)=l.take k ++ [x]:=by rw[G6,h];rfl
theorem Qf{z n:D}(hz:(ai z).Pairwise (· < ·)):∀k,k<=z.rows.length ->
  (fi z n k).1.map (fun r=>(r 0).int)=((ai z).take k).filter (fun x=>decide (x<n.int))++((bif (fi z n k).2 then[n.int] else[])++((ai z).take k).filter (fun x=>decide (n.int<x))) /\
  (fi z n k).2=((ai z).take k).any (fun x=>decide (n.int<=x))
 | 0,_=>⟨rfl,rfl⟩
 | k+1,hk=>by
  obtain⟨h1,V⟩:=Qf (n:=n) hz k (by omega);have hx:=cP z k (by omega);have ht:=Bx hx;have a1:∀y∈(ai z).take k,y<(z k 0).int:=by have hp:=hz.sublist (List.take_sublist (k+1) (ai z));rw[ht,C1] at hp;exact fun y Y=>hp.2.2 y Y _ (by simp)
  rw[fi,ht];generalize z k 0=d at *;obtain⟨S,hS⟩:∃S,S=fi z n k:=⟨_,rfl⟩;rw[<- hS] at h1 V ⊢;obtain⟨rows,U⟩:=S;generalize (ai z).take k=t at *;have h1:rows.map (fun r=>(r 0).int)=t.filter (fun x=>decide (x<n.int))++((bif U then[n.int] else[])++t.filter (fun x=>decide (n.int<x))):=h1;have V:U=t.any (fun x=>decide (n.int<=x)):=V;show (bif d.int != n.int then (bif !U&&leI n.int d.int then rows ++ [[n]] else rows) ++ [[d]] else (bif !U&&leI n.int d.int then rows ++ [[n]] else rows)).map (fun r=>(r 0).int)=(t ++ [d.int]).filter _++((bif U||leI n.int d.int then[n.int] else[])++(t ++ [d.int]).filter _)/\(U||leI n.int d.int)=(t ++ [d.int]).any _;have a0:d.int<=n.int->U=false/\t.filter (fun x=>decide (n.int<x)) = []:=fun O=>by
   refine⟨?_,?_⟩
   ·rw[V,F6];intro y Y;have:=a1 y Y;simp;omega
   ·rw[D9];intro y Y;have:=a1 y Y;simp;omega
  have a2:U=false->t.filter (fun x=>decide (n.int<x)) = []:=fun J=>by rw[D9];intro y Y;rw[J] at V;have:=F6.1 V.symm y Y;simp at this ⊢;omega
  refine⟨?_,?_⟩
  ·rcases H9 d.int n.int with O | O | O
   ·obtain⟨rfl,J⟩:=a0 (by omega);rw[J] at h1;have Z:(d.int != n.int)=true:=by simp;omega
    rw[Z,Er O];simp[aL,u9,C0,J,O,h1,show ¬n.int<d.int from by omega]
   ·obtain⟨rfl,J⟩:=a0 (by omega);rw[J] at h1;have Z:(d.int != n.int)=false:=by simp[O]
    rw[Z,bb (show n.int<=d.int by omega)];simp[aL,u9,C0,J,h1,O]
   ·have Z:(d.int != n.int)=true:=by simp;omega
    rw[Z,bb (show n.int<=d.int by omega)];cases U with
    | false =>have J:=a2 rfl;rw[J] at h1;simp[aL,u9,C0,J,h1,O,show ¬d.int<n.int from by omega]
    | true=>simp[aL,u9,C0,h1,O,show ¬d.int<n.int from by omega]
  ·rw[List.any_append,<- V];simp[leI]
theorem eU{z n:D}(hz:(ai z).Pairwise (· < ·)):ai (bC z n)=VG (ai z) n.int:=by
 obtain⟨h1,J⟩:=Qf (n:=n) hz z.rows.length (g8 _);rw[z9 (by rw[bR];exact g8 _)] at h1 J;unfold bC VG;revert h1 J;cases V:(fi z n z.rows.length).2 with
 | true =>intro h1 J;show (fi z n z.rows.length).1.map _=_;rw[h1];rfl
 | false =>
  intro h1 J;have O:(ai z).filter (fun x=>decide (n.int<x)) = []:=by rw[D9];intro y U;have:=F6.1 J.symm y U;simp at this ⊢;omega
  show ((fi z n z.rows.length).1 ++ [[n]]).map _=_;rw[u9,h1,O];simp[aL]
theorem JZ{z n:D}(hz:(ai z).Pairwise (· < ·)):(ai (bC z n)).Pairwise (· < ·):=by rw[eU hz];exact Lp hz _
def iR(z:D):Bool:=decide ((ai z).Pairwise (· < ·))
theorem ro{z:D}(h:(ai z).Pairwise (· < ·)):iR z=true:=w8 h
theorem Oe{z:D}(h:iR z=true):(ai z).Pairwise (· < ·):=j9 h
theorem aU{l:List b8}{k:Nat}(h:k<l.length):l.getD k []=l[k]:=by simp[f9,h]
theorem sS{l:List b8}{k:Nat}(h:k<l.length):l.take (k+1)=l.take k ++ [l.getD k []]:=by rw[G6,g6 h,aU h];rfl
def jX(r:b8):Bool:=inB (r 0).int 1 60&&(ar [r 1,r 2]&&cO [r 3])
theorem bU(z:D):aR z=true↔(∀r∈z.rows,jX r=true)/\z.rows.Pairwise (fun a b=>cA b a=false)/\z.rows.length<=40:=by
 unfold aR;simp only[a9,i6,m0,leI,f7];constructor
 ·rintro⟨h,Y⟩;refine⟨fun r V=>?_,t9.2 fun i j hi J O=>?_,by omega⟩
  ·obtain⟨k,hk,rfl⟩:=n9 V;have:=h k hk;rw[kP,aU hk] at this;simp only[a9] at this;simp only[jX,a9];exact⟨this.1,this.2.1,this.2.2.1⟩
  ·have:=h j J;simp only[kP,a9,m6,F6,m0,D6] at this;have:=this.2.2.2 i O
   rwa [aU J,aU hi] at this
 ·rintro⟨h1,U,Z⟩;refine⟨fun k hk=>?_,by omega⟩;have a:=h1 _ (p9 hk);simp only[jX,a9] at a;simp only[kP,a9,m6,F6,m0,D6];rw[aU hk];refine⟨a.1,a.2.1,a.2.2,fun j J=>?_⟩;rw[aU (by omega)];exact t9.1 U j k (by omega) hk J
theorem Nt{z:D}(h:aR z=true)(C:b8->Bool):aR (.l (z.rows.filter C))=true:=by obtain⟨h1,J,U⟩:=(bU z).1 h;refine (bU _).2 ⟨fun r O=>h1 r (t8.1 O).1,J.filter _,?_⟩;have:=H2 C z.rows;show (z.rows.filter C).length<=40;omega
theorem uC{z n:D}(h:aR z=true):(jg z n).rows=z.rows.filter fun r => !((r 0).int==n.int):=by unfold jg;rw[h];rfl
theorem Wc{z n:D}(h:aR z=true):aR (jg z n)=true:=by
 have:jg z n=.l (z.rows.filter fun r => !((r 0).int==n.int)):=by unfold jg;rw[h];rfl
 rw[this];exact Nt h _
theorem Wq(rows:List b8)(C:b8->Bool)(f:b8->b8):∀k,k<=rows.length->kpL (fun k=>C (rows.getD k [])) (fun k=>f (rows.getD k [])) k=((rows.take k).filter C).map f
 | 0,_=>rfl
 | k+1,hk=>by rw[kpL,Wq rows C f k (by omega),sS (show k<rows.length by omega),C0,u9];generalize rows.getD k []=r;rw[B0];cases C r <;> simp
theorem sm(rows:List b8)(C:b8->Bool)(f:b8->b8):kpL (fun k=>C (rows.getD k [])) (fun k=>f (rows.getD k [])) rows.length=(rows.filter C).map f:=by rw[Wq rows C f rows.length (g8 _),C3]
abbrev nrm(r:b8):b8:=sub r 0 4
theorem rR(z:D)(n:Int):(iX z n false).rows.map nrm=(z.rows.map nrm).filter fun r => !((r 0).int==n):=by
 unfold iX;rw[bp,sm z.rows (fun r=>((r 0).int==n)==false) (fun r=>sub r 0 4),A7,F9];have e1:(nrm ∘ fun r=>sub r 0 4)=nrm:=rfl;have e2:((fun r => !((r 0).int==n)) ∘ nrm)=fun r=>(((r 0).int==n)==false):=by funext r;show (!((r 0).int==n))=(((r 0).int==n)==false);cases (r 0).int==n <;> rfl
 rw[e1,e2]
def oP(l t:D):Nat->D
 | 0=>l
 | k+1=>jg (oP l t k) (t.rows.getD k [] 0)
theorem qA{l t:D}(h:aR l=true):∀k,k<=t.rows.length->(oP l t k).rows=l.rows.filter (fun r => !((ai t).take k).contains (r 0).int)/\aR (oP l t k)=true
 | 0,_=>⟨(B5.2 fun r _=>rfl).symm,h⟩
 | k+1,hk=>by
  obtain⟨h1,J⟩:=qA (t:=t) h k (by omega);refine⟨?_,Wc J⟩;rw[oP,uC J,h1,H0,Bx (cP t k (by omega))];refine D7 fun r _=>?_
  simp only[List.contains_eq_mem,m7,n4,<- Bool.not_or,<- Bool.decide_or]
  congr 1
  rw[p7];simp[or_comm]
theorem Ym{l t:D}(h:aR l=true){k:Nat}(hk:k<=t.rows.length):(oP l t k).rows.length<=40:=((bU _).1 (qA h k hk).2).2.2
def gr(w t:D):Nat->D
 | 0=>w
 | k+1=>bC (gr w t k) (t.rows.getD k [] 0)
theorem oF{w t:D}(hw:(ai w).Pairwise (· < ·)):∀k,k<=t.rows.length->(ai (gr w t k)).Pairwise (· < ·)/\∀m,m∈ai (gr w t k)↔m∈ai w\/m∈(ai t).take k
 | 0,_=>⟨hw,fun m=>by simp[gr]⟩
 | k+1,hk=>by
  obtain⟨h1,J⟩:=oF (t:=t) hw k (by omega);refine⟨JZ h1,fun m=>?_⟩;rw[gr,eU h1,sA,J,Bx (cP t k (by omega))];simp only[m7,n4];constructor
  ·rintro (h | h | h)
   ·exact .inr (.inr h)
   ·exact .inl h
   ·exact .inr (.inl h)
  ·rintro (h | h | h)
   ·exact .inr (.inl h)
   ·exact .inr (.inr h)
   ·exact .inl h
theorem yc(w t:D):∀k,(gr w t k).rows.length<=w.rows.length+k
 | 0=>g8 _
 | k+1=>by have h1:=yc w t k;have J:=qz (gr w t k) (gd (t.rows.getD k []) 0);show (bC _ _).rows.length<=_;omega
def cC(l:D)(C:b8->Bool):Nat->D
 | 0=>.l []
 | k+1=>bif C (l.rows.getD k []) then bC (cC l C k) (l.rows.getD k [] 0) else cC l C k
theorem jy(l:D)(C:b8->Bool):∀k,k<=l.rows.length->(ai (cC l C k)).Pairwise (· < ·)/\∀m,m∈ai (cC l C k)↔∃r∈l.rows.take k,C r=true/\(gd r 0).int=m
 | 0,_=>⟨List.Pairwise.nil,fun m=>by simp[cC,ai,D.rows]⟩
 | k+1,hk=>by
  obtain⟨h1,O⟩:=jy l C k (by omega);rw[sS (show k<l.rows.length by omega),cC];generalize l.rows.getD k []=r;cases U:C r with
  | false =>
   refine⟨h1,fun m=>?_⟩;rw[f5,O];constructor
   ·rintro⟨x,J,h⟩;exact⟨x,by simp[J],h⟩
   ·rintro⟨x,J,h,e⟩;rcases m7.1 J with J | J
    ·exact⟨x,J,h,e⟩
    ·rw[n4.1 J,U] at h;cases h
  | true =>
   refine⟨JZ h1,fun m=>?_⟩;rw[f8,eU h1,sA,O];constructor
   ·rintro (h | ⟨x,J,h⟩)
    ·exact⟨r,by simp,U,h.symm⟩
    ·exact⟨x,by simp[J],h⟩
   ·rintro⟨x,J,h,e⟩;rcases m7.1 J with J | J
    ·exact .inr ⟨x,J,h,e⟩
    ·rw[n4.1 J] at e;exact .inl e.symm
theorem fk(l:D)(C:b8->Bool):∀k,(cC l C k).rows.length<=k
 | 0=>g8 _
 | k+1=>by
  have h1:=fk l C k;have J:=qz (cC l C k) (gd (l.rows.getD k []) 0);rw[cC];cases C (l.rows.getD k [])
  ·show (cC l C k).rows.length<=_;omega
  ·show (bC _ _).rows.length<=_;omega
def jW(l w z:D)(M H:b8->Bool):Nat->D × D × Bool
 | 0=>(l,w,false)
 | k+1=>bif !(M (z.rows.getD k [])) then jW l w z M H k else bif H (z.rows.getD k []) then ((jW l w z M H k).1,(jW l w z M H k).2.1,true) else
  (iX (jW l w z M H k).1 (z.rows.getD k [] 0).int false,bC (jW l w z M H k).2.1 (z.rows.getD k [] 0),(jW l w z M H k).2.2)
theorem Vg{l w z:D}{M H:b8->Bool}(hw:(ai w).Pairwise (· < ·)):∀k,k<=z.rows.length ->
  ∃O:List Int,(∀m,m∈O↔∃r∈z.rows.take k,(M r && !H r)=true/\(gd r 0).int=m)/\(jW l w z M H k).1.rows.map nrm=(l.rows.map nrm).filter (fun r => !O.contains (gd r 0).int) /\
   (ai (jW l w z M H k).2.1).Pairwise (· < ·)/\(∀m,m∈ai (jW l w z M H k).2.1↔m∈ai w\/m∈O)/\((jW l w z M H k).2.2=true↔∃r∈z.rows.take k,(M r&&H r)=true)
 | 0,_=>⟨[],fun m=>by simp,(B5.2 fun r _=>rfl).symm,hw,fun m=>by simp[jW],by simp[jW]⟩
 | k+1,hk=>by
  obtain⟨O,h1,h2,Z,h4,h5⟩:=Vg (l:=l) (z:=z) (M:=M) (H:=H) hw k (by omega);rw[sS (show k<z.rows.length by omega),jW];generalize z.rows.getD k []=r;have U:∀Q:b8->Prop,¬Q r->((∃x∈z.rows.take k ++ [r],Q x)↔∃x∈z.rows.take k,Q x):=fun Q hq=>by
   constructor
   ·rintro⟨x,J,h⟩;rcases m7.1 J with J | J
    ·exact⟨x,J,h⟩
    ·rw[n4.1 J] at h;exact absurd h hq
   ·rintro⟨x,J,h⟩;exact⟨x,by simp[J],h⟩
  cases V:M r with
  | false =>rw[w5,f8];exact⟨O,fun m=>(h1 m).trans (U (fun x=>(M x && !H x)=true/\(gd x 0).int=m) (by simp[V])).symm,h2,Z,h4,h5.trans (U (fun x=>(M x&&H x)=true) (by simp[V])).symm⟩
  | true =>
   rw[l8,f5];cases Y:H r with
   | true =>rw[f8];exact⟨O,fun m=>(h1 m).trans (U (fun x=>(M x && !H x)=true/\(gd x 0).int=m) (by simp[V,Y])).symm,h2,Z,h4,⟨fun _=>⟨r,by simp,by rw[V,Y];rfl⟩,fun _=>rfl⟩⟩
   | false =>
    rw[f5];refine⟨O ++ [(gd r 0).int],fun m=>?_,?_,JZ Z,fun m=>?_,h5.trans (U (fun x=>(M x&&H x)=true) (by simp[Y])).symm⟩
    ·rw[m7,h1,n4];constructor
     ·rintro (⟨x,J,h⟩ | h)
      ·exact⟨x,by simp[J],h⟩
      ·exact⟨r,by simp,by rw[V,Y];rfl,h.symm⟩
     ·rintro⟨x,J,h,e⟩;rcases m7.1 J with J | J
      ·exact .inl ⟨x,J,h,e⟩
      ·rw[n4.1 J] at e;exact .inr e.symm
    ·rw[rR,h2,H0];refine D7 fun x _=>?_
     simp only[List.contains_eq_mem,m7,n4,<- Bool.not_or,<- Bool.decide_or]
     congr 1
     rw[p7];simp[or_comm]
    ·rw[eU Z,sA,h4,m7,n4];constructor
     ·rintro (h | h | h)
      ·exact .inr (.inr h)
      ·exact .inl h
      ·exact .inr (.inl h)
     ·rintro (h | h | h)
      ·exact .inr (.inl h)
      ·exact .inr (.inr h)
      ·exact .inl h
def HT(ds:List Nat):Ent:=(aeV,fun args=>match args with
 | [t]=>bif ds.contains (t.p 0).int.toNat then some (T.none_,false) else none
 | _=>none)
theorem rF{P:Program}(ds:List Nat):aw P (HT ds):=by
 intro args r h;unfold HT at h;simp only at h
 split at h
 ·rename_i t;cases J:ds.contains (t.p 0).int.toNat <;> rw[J] at h <;> cases h
 ·cases h
def pu:Ent:=(abk,fun _=>some (T.none_,false))
theorem acW{P:Program}:aw P pu:=by intro args r h;unfold pu at h;cases h
theorem mC{P:Program}:aw P pu:=acW
abbrev b9:List Ce:=[.d si,.own (0,1) true 41,.own (0,2) true 41,.own (0,3) true 108,.own (0,4) true 93,.own (0,1000005) true 75,.own (0,6) true 3,.own (0,7) true 3,.d si]
def DD:List Ce:= b9
def yS:Ent:=HT [28,44]
theorem Jn:aw f4 yS:=rF _
abbrev tw:=find [Cp,vR,mt,JK,to,yS]
abbrev tv:=[0,1,2,3,5,30,31,32,33]
def jb(N:Nat)(p:b8):b8->Out:=bc f4 tw N tv Tryz.f74 (.one (.agg DD)) [⟨ag aK,p⟩] 0
theorem yT(N:Nat)(p:b8)(x0 x1 x2 x3 x4 x5 x6 x7 x8 x9 c4 a1 O U J a2 c6 c7 c0 a0 a5 b4 b3 Y c8 b2 a6 c3 b0 c1 a7 a3 b5 b1 a4 a8 c5 b6 V Z c2 c9:D):(jb N p) [x0,x1,x2,x3,x4,x5,x6,x7,x8,x9,c4,a1,O,U,J,a2,c6,c7,c0,a0,a5,b4,b3,Y,c8,b2,a6,c3,b0,c1,a7,a3,b5,b1,a4,a8,c5,b6,V,Z,c2,c9] =
 bif ltI J.int U.int then nd (al J.int O.rows.length) (nd (leI (O.rows.getD J.int.toNat [] 1) 2000000) (nd (bq (V.rows ++ [[O.rows.getD J.int.toNat [] 0,.l (O.rows.getD J.int.toNat [] 1).rows]])&&true) (nx [x0,x1,x2,x3,x4,x5,x6,x7,x8,x9,c4,a1,O,U,.i (w64 (J.int+1)),a2,c6,c7,c0,a0,a5,b4,b3,Y,c8,b2,a6,c3,b0,c1,a7,a3,b5,b1,a4,a8,c5,b6,.l (V.rows ++ [[O.rows.getD J.int.toNat [] 0,.l (O.rows.getD J.int.toNat [] 1).rows]]),Z,c2,c9])))
 else ex 0 [x0,x1,x2,x3,x4,x5,x6,x7,x8,x9,c4,a1,O,U,J,a2,c6,c7,c0,a0,a5,b4,b3,Y,c8,b2,a6,c3,b0,c1,a7,a3,b5,b1,a4,a8,c5,b6,V,Z,c2,c9]:=by kernel_rfl
def sC(N:Nat)(p:b8):List b8:= [[.i 0],[p 0,.l (p 1).rows,.l (p 2).rows,.l (p 3).rows,.l (p 4).rows,.l [],.l (p 6).rows,.l (p 7).rows,p 8],[.l (p 7).rows],[.l (p 6).rows],[.l (p 4).rows],[.l (p 3).rows],[.l (p 2).rows],[.l (p 1).rows],[p 8],[.i 0],[p 7],[.i 0],[p 6],[.i 0],[p 4],[.i 0],[p 3],[.i 0],[p 2],[.i 0],[p 1],[.i 0],[p 0],[.i 0],p,[.i 0],[.i 0],sub p 0 9,[.i 0,.l [],.l [],.l [],.l [],.l [],.l [],.l [],.i 0],[p 0,.l (p 1).rows,.l (p 2).rows,.l (p 3).rows,.l (p 4).rows,.l [],.l (p 6).rows,.l (p 7).rows,p 8]]
theorem La(N:Nat)(p:b8):aZ f4 tw N tv Tryz.f74 (.one (.agg DD)) [⟨ag aK,p⟩]=some (bo,
 nd ((leI (p 1) 2000000)&&((leI (p 2) 2000000)&&((leI (p 3) 1000000)&&((leI (p 4) 2000000)&&((leI (p 6) 1000000000)&&((leI (p 7) 1000000000)&&true)))))) (ndN 7 (((leI (p 1) 2000000)&&((leI (p 2) 2000000)&&((leI (p 3) 1000000)&&((leI (p 4) 2000000)&&((leI (p 6) 1000000000)&&((leI (p 7) 1000000000)&&true))))))&&(ec (sC N p) (sC N p))) ((let J:=ba (jb N p) N [p 0,p 1,p 2,p 3,p 4,p 5,p 6,p 7,p 8,.i 0,.i 0,.i 0,p 5,.i (p 5:Int),.i 0,p 0,p 1,p 2,p 3,p 4,p 5,p 6,p 7,p 8,.i 0,.l [],.l [],.l [],.l [],.l [],.l [],.l [],.i 0,p 0,.l (p 1).rows,.l (p 2).rows,.l (p 3).rows,.l (p 4).rows,.l [],.l (p 6).rows,.l (p 7).rows,p 8]
  nd J.isSome (nd (J.code==2) (some (1,sub J.pay 33 9))))))):=by kernel_rfl
def bG(p:b8):b8:= [p 0,.l (p 1).rows,.l (p 2).rows,.l (p 3).rows,.l (p 4).rows,.l (kpL (fun _=>true) (fun k => [((p 5).rows.getD k []) 0,.l (((p 5).rows.getD k []) 1).rows]) (p 5).rows.length),.l (p 6).rows,.l (p 7).rows,p 8]
abbrev ddS(p:b8):b8:=sub (bG p) 0 9
abbrev dpS(p:b8):b8:=ddS (sub p 0 9)
def cv(p:b8):Bool:=leI (p 1) 1000000&&(leI (p 2) 1000000&&(leI (p 3) 1000000&&(leI (p 4) 1000000&&(leI (p 5) 1000000&&(leI (p 6) 1000000&&(leI (p 7) 1000000&&(List.range (p 5).rows.length).all fun k=>leI (((p 5).rows.getD k []) 1) 1000000))))))
def gC:Ent:=(74,e1 (ag aK) fun p=>(⟨.one (.agg DD),ddS p⟩,cv p))
theorem gi:aw f4 gC:=ck fun p h=>aq (N:=(gd p 5).rows.length+1) (ks:=tv) (ap (fC ⟨Mw,fC ⟨tU,fC ⟨mr,fC ⟨Gs,fC ⟨xv,fC ⟨Jn,fN⟩⟩⟩⟩⟩⟩)) Tryz.func74 fun hw=>by
 rw[La];simp only[ndN];have h:cv p=true:=h;unfold cv at h;simp only[a9] at h;obtain⟨h1,V,Z,h4,h5,h6,h7,O⟩:=h;have hw:∀k,k<(gd p 5).rows.length->leI ((gd ((gd p 5).rows.getD k []) 1).rows.length:Int) 1000000=true:=fun k hk=>i6.1 O k (m0.2 hk)
 simp only[leI,f7] at h1 V Z h4 h5 h6 h7 hw;have q1:leI ((gd p 1).rows.length:Int) 2000000=true:=bb (by omega);have q2:leI ((gd p 2).rows.length:Int) 2000000=true:=bb (by omega);have q3:leI ((gd p 3).rows.length:Int) 1000000=true:=bb (by omega);have J:leI ((gd p 4).rows.length:Int) 2000000=true:=bb (by omega);have q6:leI ((gd p 6).rows.length:Int) 1000000000=true:=bb (by omega);have U:leI ((gd p 7).rows.length:Int) 1000000000=true:=bb (by omega);simp only[q1,q2,q3,J,q6,U,D2,v6,di,aP];have e:=bM (L:=jb ((gd p 5).rows.length+1) p) (fun k => [gd p 0,gd p 1,gd p 2,gd p 3,gd p 4,gd p 5,gd p 6,gd p 7,gd p 8,.i 0,.i 0,.i 0,gd p 5,.i ((gd p 5).rows.length:Int),.i (k:Int),gd p 0,gd p 1,gd p 2,gd p 3,gd p 4,gd p 5,gd p 6,gd p 7,gd p 8,.i 0,.l [],.l [],.l [],.l [],.l [],.l [],.l [],.i 0,gd p 0,.l (gd p 1).rows,.l (gd p 2).rows,.l (gd p 3).rows,.l (gd p 4).rows,.l (kpL (fun _=>true) (fun k => [gd ((gd p 5).rows.getD k []) 0,.l (gd ((gd p 5).rows.getD k []) 1).rows]) k),.l (gd p 6).rows,.l (gd p 7).rows,gd p 8]) (gd p 5).rows.length 0 (fun k hk=>?_) ?_ (N:=(gd p 5).rows.length+1) (by omega)
 ·simp only[g9,show kpL (fun _=>true) (fun k => [gd ((gd p 5).rows.getD k []) 0,.l (gd ((gd p 5).rows.getD k []) 1).rows]) 0 = [] from rfl] at e;rw[e];rfl
 ·show jb _ p [_,_,_,_,_,_,_,_,_,_,_,_,_,_,.i (k:Int),_,_,_,_,_,_,_,_,_,_,_,_,_,_,_,_,_,_,_,_,_,_,_,_,_,_,_]=_;rw[yT];have a0:=hw k hk;have Y:=fX (fun _=>true) (fun k => [gd ((gd p 5).rows.getD k []) 0,.l (gd ((gd p 5).rows.getD k []) 1).rows]) k;have l1:leI ((gd ((gd p 5).rows.getD k []) 1).rows.length:Int) 2000000=true:=bb (by omega);have l2:bq (kpL (fun _=>true) (fun k => [gd ((gd p 5).rows.getD k []) 0,.l (gd ((gd p 5).rows.getD k []) 1).rows]) k ++ [[gd ((gd p 5).rows.getD k []) 0,D.l (gd ((gd p 5).rows.getD k []) 1).rows]])=true:=bL (by rw[i5];show _+1<=_;omega);simp only[aE,bp,cy hk,bn hk,g4,aF hk (show (gd p 5).rows.length<=9223372036854775807 by omega),l1,l2,v6,aP];rfl
 ·show jb _ p [_,_,_,_,_,_,_,_,_,_,_,_,_,_,.i ((gd p 5).rows.length:Int),_,_,_,_,_,_,_,_,_,_,_,_,_,_,_,_,_,_,_,_,_,_,_,_,_,_,_]=_;rw[yT];simp only[aE,bF]
abbrev d0:List Ce:=[.d si,.d (.sl 41),.d (.sl 41),.d (.sl 108),.d (.sl 93),.d (.sl 75),.d (.sl 3),.d (.sl 3),.d si]
def zE:List Ce:= d0
def dE:b8:= [.i 0,.l [],.l [],.l [],.l [],.l [],.l [],.l [],.i 0]
def cM(p:b8)(c:Int):b8:=bif c==1 then dE else bG p
def Ia:Ent:=HT [8]
theorem Px:aw f4 Ia:=rF _
abbrev MT:=find [gC,Ia]
abbrev Nj:=[0,1,2,4,5,7]
theorem TX(N:Nat)(p q:b8):aZ f4 MT N Nj Tryz.f73 (.tup [.agg DD,.c (.d si)]) [⟨ag aK,p⟩,⟨ri,q⟩]=some (bo,
 bif (q 0).int==1 then some (1,[.i 0,.l [],.l [],.l [],.l [],.l [],.l [],.l [],.i 0,.i 1])
 else nd (cv (sub p 0 9)) (some (1,[dpS p 0,dpS p 1,dpS p 2,dpS p 3,dpS p 4,dpS p 5,dpS p 6,dpS p 7,dpS p 8,q 0]))):=by kernel_rfl
def gt(p:b8)(c:D):b8:=bif c.int==1 then dE ++ [.i 1] else bG p ++ [c]
def zP:Ent:=(73,e2 (ag aK) ri fun p q=>(⟨.tup [.agg DD,.c (.d si)],sub (gt p (q 0)) 0 10⟩,cv p||(q 0).int==1))
theorem CC:aw f4 zP:=bj fun p q h=>aq (N:=0) (ks:=Nj) (ap (fC ⟨gi,fC ⟨Px,fN⟩⟩)) Tryz.func73 fun hw=>by
 rw[TX];have h:(cv p||(q 0).int==1)=true:=h;cases J:(q 0).int==1 with
 | true =>show some (bo,some (1,_))=some (bo,some (1,sub (gt p (q 0)) 0 10));unfold gt;rw[J];rfl
 | false =>rw[J,K7] at h;have h:cv (sub p 0 9)=true:=h;rw[h];show some (bo,some (1,_))=some (bo,some (1,sub (gt p (q 0)) 0 10));unfold gt;rw[J];rfl
def iV(rs:List b8):Int:=(rs.getD (rs.length - 1) [] 1).int
def Gg(rs:List b8)(lo hi:Int):List b8:=
 bif ltI 0 (rs.length:Int)&&(iV rs==lo) then rs.set (rs.length - 1) [rs.getD (rs.length - 1) [] 0,.i hi] else rs ++ [[.i lo,.i hi]]
theorem GT{l:List b8}{i:Nat}{x:b8}(h:i<l.length):(l.set i x).getD i []=x:=by simp[f9,L5,h]
theorem qq(l:List b8)(x:b8):(l ++ [x]).getD l.length []=x:=by simp[f9]
theorem agr(rs:List b8)(lo hi:Int):(Gg rs lo hi).length<=rs.length+1:=by unfold Gg;cases (ltI 0 (rs.length:Int)&&(iV rs==lo)) <;> simp
def kpR(C:Nat->Bool):Nat->List b8
 | 0 => []
 | k+1=>bif C k then Gg (kpR C k) (k:Int) ((k:Int)+1) else kpR C k
theorem abG(C:Nat->Bool):∀k,(kpR C k).length<=k
 | 0=>g8 _
 | k+1=>by
  have:=abG C k;have J:=agr (kpR C k) (k:Int) ((k:Int)+1);rw[kpR];cases C k
  ·show (kpR C k).length<=_;omega
  ·show (Gg _ _ _).length<=_;omega
structure aeL(z:D):Prop where
 lo:∀k,k<z.rows.length->(z.rows.getD k [] 0).int=(adY z k).int
 lt:∀k,k<z.rows.length->(adY z k).int<(adY z (k+1)).int
 n:z.rows.length<=16
 e:(adY z z.rows.length).int=1000
theorem aeL.mono{z:D}(h:aeL z):∀m k,k+m<=z.rows.length->(adY z k).int<=(adY z (k+m)).int
 | 0,k,_=>F8 _
 | m+1,k,hk=>by have:=h.mono m k (by omega);have J:=h.lt (k+m) (by omega);rw[show k+(m+1)=k+m+1 from by omega];omega
def amm(rs:List b8)(lo hi:D):List b8:=
 bif ltI 0 (rs.length:Int)&&(iV rs==lo.int) then rs.set (rs.length - 1) [rs.getD (rs.length - 1) [] 0,hi] else rs ++ [[lo,hi]]
def ahz(a b:List b8):Prop:=a.length=b.length/\∀i j,(a.getD i [] j).int=(b.getD i [] j).int
theorem ahz.add{a b:List b8}(h:ahz a b)(lo hi:D):ahz (amm a lo hi) (Gg b lo.int hi.int):=by
 unfold amm Gg;have e:iV a=iV b:=by unfold iV;rw[h.1];exact h.2 _ _
 rw[e,h.1];cases (ltI 0 (b.length:Int)&&(iV b==lo.int))
 ·refine⟨by simp[h.1],fun i j=>?_⟩;simp only[f5];by_cases J:i<b.length
  ·have U:(a ++ [[lo,hi]]).getD i []=a.getD i []:=by simp[f9,v9 (show i<a.length by rw[h.1];exact J)]
   have V:(b ++ [[D.i lo.int,D.i hi.int]]).getD i []=b.getD i []:=by simp[f9,v9 J]
   rw[U,V];exact h.2 i j
  ·by_cases Y:i=b.length
   ·subst Y;rw[qq,<- h.1,qq]
    match j with
    | 0=>rfl
    | 1=>rfl
    | j+2=>rfl
   ·have U:(a ++ [[lo,hi]]).getD i [] = []:=by rw[f9,G1 (by have:=h.1;rw[i5,this];show b.length+1<=i;omega)];rfl
    have V:(b ++ [[D.i lo.int,D.i hi.int]]).getD i [] = []:=by rw[f9,G1 (by simp;omega)];rfl
    rw[U,V]
 ·refine⟨by simp[h.1],fun i j=>?_⟩;simp only[f8];by_cases J:i=b.length - 1/\i<b.length
  ·obtain⟨rfl,O⟩:=J;rw[GT O,GT (by rw[h.1];exact O)]
   match j with
   | 0=>exact h.2 _ _
   | 1=>rfl
   | j+2=>rfl
  ·have q:∀(l:List b8) (y:b8),l.length=b.length->(l.set (b.length - 1) y).getD i []=l.getD i []:=fun l y Z=>by
    simp only[f9,L5]
    split
    ·split
     ·exact absurd ⟨by omega,by omega⟩ J
     ·rw[G1 (by omega)]
    ·rfl
   rw[q a _ h.1,q b _ rfl];exact h.2 i j
abbrev wl:=find [JH]
abbrev vq:=[0,1,2,3]
theorem Fj(N:Nat)(p q:b8):aZ f4 wl N vq Tryz.f249 rb [⟨ag ay,p⟩,⟨.one (.c (.cptr [si] 0)),q⟩]=some (bo,
 ob (inB (((q 0).rows.getD 0 []) 0).int (p 0).int (w64 ((p 1).int - 1)))):=by kernel_rfl
def ko(p q:b8):Bool:=
 inB (((q 0).rows.getD 0 []) 0).int (p 0).int (w64 ((p 1).int - 1))
def oN:Ent:=(249,e2 (ag ay) (.one (.c (.cptr [si] 0))) fun p q=>(⟨rb,[.b (ko p [q 0])]⟩,true))
theorem sn:aw f4 oN:=bj fun p q h=>aq (N:=0) (ks:=vq) (ap (fC ⟨FK,fN⟩)) Tryz.func249 fun hw=>by
 rw[Fj]
 try simp only[dd,de,db]
 rfl
abbrev Zq:=find [oN]
abbrev XS:=[0,1,4,5,7,8,9,16]
def BW(N:Nat)(p q:b8):b8->Out:=bc f4 Zq N XS Tryz.f207 ri [⟨sd (.sl 41),p⟩,⟨.one (.c (.fn 249 [.cptr [si] 0])),q⟩] 0
theorem abK(N:Nat)(p q:b8)(O U Y V J:D):(BW N p q) [O,U,Y,V,J] =
 bif ltI J.int V.int then nd (al J.int O.rows.length) (bif ko (sub (O.rows.getD J.int.toNat []) 0 2) [U.rows.getD 0 [] 0] then some (1,[J])
 else nx [O,U,Y,V,.i (w64 (J.int+1))])
 else ex 0 [O,U,Y,V,J]:=by kernel_rfl
theorem aek(N:Nat)(p q:b8):aZ f4 Zq N XS Tryz.f207 ri [⟨sd (.sl 41),p⟩,⟨.one (.c (.fn 249 [.cptr [si] 0])),q⟩]=some (bo,
 (let J:=ba (BW N p q) N [p 0,q 0,.i 0,.i (p 0:Int),.i 0]
  nd J.isSome (bif J.code==1 then some (1,J.pay)
  else nd (J.code==2) (oi (-1))))):=by kernel_rfl
def oK(c:D)(r:b8):Bool:=ko r [c.rows.getD 0 [] 0]
def afK:Ent:=(207,e2 (sd (.sl 41)) (.one (.c (.fn 249 [.cptr [si] 0]))) fun p q=>(⟨ri,[.i (ixF (fun k=>oK (q 0) (sub ((p 0).rows.getD k []) 0 2)) 0 (p 0).rows.length)]⟩,true))
theorem agu:aw f4 afK:=bj fun p q h=>aq (N:=(p 0).rows.length+1) (ks:=XS) (ap (fC ⟨sn,fN⟩)) Tryz.func207 fun hw=>by
 rw[aek];have U:=dY (hw ⟨sd (.sl 41),p⟩ (by simp));have e:=fK (L:=BW ((p 0).rows.length+1) p q) (fun k => [p 0,q 0,.i 0,.i (p 0:Int),.i (k:Int)]) (p 0).rows.length (fun k=>oK (q 0) (sub (p 0 k) 0 2)) [p 0,q 0,.i 0,.i (p 0:Int),.i (p 0:Int)] (fun k hk=>?_) ?_ (p 0).rows.length 0 ((p 0).rows.length+1) (by omega) (by omega)
 ·simp only[g9] at e;rw[e];have J:=fx (fun k=>oK (q 0) (sub (p 0 k) 0 2)) (p 0).rows.length 0;cases O:decide (ixF (fun k=>oK (q 0) (sub (p 0 k) 0 2)) 0 (p 0).rows.length>=0)
  ·rw[J O];rfl
  ·rfl
 ·show BW _ p q [_,_,_,_,.i (k:Int)]=_;rw[abK];simp only[aE,cy hk,bn hk,aF hk U,g4];unfold oK;cases ko (sub (p 0 k) 0 2) [q 0 0 0] <;> rfl
 ·show BW _ p q [_,_,_,.i (p 0:Int),.i (p 0:Int)]=_;rw[abK];simp only[aE,bF]
abbrev ahP:=find [afK,oN]
abbrev aii:=[0,1,4]
theorem afI(N:Nat)(p q:b8):aZ f4 ahP N aii Tryz.f106 rb [⟨sd (.sl 41),p⟩,⟨.one (.c (.fn 249 [.cptr [si] 0])),q⟩]=some (bo,
 ob (leI 0 (ixF (fun k=>oK (.l [[((q 0).rows.getD 0 []) 0]]) (sub ((p 0).rows.getD k []) 0 2)) 0 (p 0).rows.length))):=by kernel_rfl
def afH:Ent:=(106,e2 (sd (.sl 41)) (.one (.c (.fn 249 [.cptr [si] 0]))) fun p q=>(⟨rb,[.b (dK (fun J=>oK (q 0) (sub J 0 2)) (p 0))]⟩,true))
theorem agU:aw f4 afH:=bj fun p q h=>aq (N:=0) (ks:=aii) (ap (fC ⟨agu,fC ⟨sn,fN⟩⟩)) Tryz.func106 fun hw=>by rw[afI];refine congrArg (fun x=>some (bo,ob x)) ?_;exact (iD (fun k=>oK (q 0) (sub (p 0 k) 0 2)) (p 0).rows.length 0).trans (by simp only[i9];rfl)
abbrev BP:=find [JH,afH]
abbrev Ec:=[0,1,2,3,4,5,8]
theorem Ot(N:Nat)(p q r s:b8):aZ f4 BP N Ec Tryz.f248 rb [⟨ri,p⟩,⟨.one (.c (.cptr [si,si] 0)),q⟩,⟨.one (.c (.cptr [.bool] 0)),r⟩,⟨.one (.c (.cptr [.sl 41] 0)),s⟩]=some (bo,
 bif inB (p 0).int (((q 0).rows.getD 0 []) 0).int (w64 ((((q 0).rows.getD 0 []) 1).int - 1)) then some (1,[((r 0).rows.getD 0 []) 0])
 else ob (dK (fun J=>oK (.l [[.l [[p 0]]]]) (sub J 0 2)) (((s 0).rows.getD 0 []) 0))):=by kernel_rfl
def ZO(z:D)(a:b8)(wi k:D):D:=bif inB k.int (a 0).int (w64 ((a 1).int - 1)) then wi else .b (dK (fun J=>oK (.l [[.l [[k]]]]) (sub J 0 2)) z)
def Cf:Ent:=(248,e4 ri (.one (.c (.cptr [si,si] 0))) (.one (.c (.cptr [.bool] 0))) (.one (.c (.cptr [.sl 41] 0))) fun p q r s=>(⟨rb,[ZO (((s 0).rows.getD 0 []) 0) ((q 0).rows.getD 0 []) (((r 0).rows.getD 0 []) 0) (p 0)]⟩,true))
theorem Nd:aw f4 Cf:=wV fun p q r s h=>aq (N:=0) (ks:=Ec) (ap (fC ⟨FK,fC ⟨agU,fN⟩⟩)) Tryz.func248 fun hw=>by rw[Ot];unfold ZO;cases inB (p 0).int (q 0 0 0).int (w64 ((q 0 0 1).int - 1)) <;> rfl
abbrev ahK:=find [Cf]
abbrev aeq:=[0,2,3,4,5,7,8,19,24]
def Ns(N:Nat)(p:b8):b8->Out:=bc f4 ahK N aeq Tryz.f247 (.one (.c (.own (0,0) true 41))) [⟨.one (.c (.fn 248 [.cptr [si,si] 0,.cptr [.bool] 0,.cptr [.sl 41] 0])),p⟩] 0
theorem aeS(N:Nat)(p:b8)(U V J O:D):(Ns N p) [U,V,J,O] =
 bif ltI O.int 1000 then bif !(ZO ((((U.rows.getD 0 []).tail.tail 0).rows.getD 0 []) 0) ((U.rows.getD 0 [] 0).rows.getD 0 []) ((((U.rows.getD 0 []).tail 0).rows.getD 0 []) 0) O).bool then nx [U,V,J,.i (w64 (O.int+1))]
 else bif ltI 0 J then nd (al (w64 ((J:Int) - 1)) J.rows.length) (bif (J.rows.getD (w64 ((J:Int) - 1)).toNat [] 1).int==O.int then nd (al (w64 ((J:Int) - 1)) J.rows.length) (nd (al (w64 ((J:Int) - 1)) J.rows.length) (nx [U,V,.l (J.rows.set (w64 ((J:Int) - 1)).toNat [J.rows.getD (w64 ((J:Int) - 1)).toNat [] 0,.i (w64 ((J.rows.getD (w64 ((J:Int) - 1)).toNat [] 1).int+1))]),.i (w64 (O.int+1))]))
 else nd (bq (J.rows ++ [[O,.i (w64 (O.int+1))]])&&true) (nx [U,V,.l (J.rows ++ [[O,.i (w64 (O.int+1))]]),.i (w64 (O.int+1))]))
 else nd (bq (J.rows ++ [[O,.i (w64 (O.int+1))]])&&true) (nx [U,V,.l (J.rows ++ [[O,.i (w64 (O.int+1))]]),.i (w64 (O.int+1))])
 else ex 0 [U,V,J,O]:=by kernel_rfl
theorem aiB(N:Nat)(p:b8):aZ f4 ahK N aeq Tryz.f247 (.one (.c (.own (0,0) true 41))) [⟨.one (.c (.fn 248 [.cptr [si,si] 0,.cptr [.bool] 0,.cptr [.sl 41] 0])),p⟩]=some (bo,
 (let J:=ba (Ns N p) N [p 0,.l [],.l [],.i 0]
  nd J.isSome (nd (J.code==2) (some (1,[J.pay 2]))))):=by kernel_rfl
def Bh(c:D)(k:Nat):Bool:=(ZO ((((c.rows.getD 0 []).tail.tail 0).rows.getD 0 []) 0) ((c.rows.getD 0 [] 0).rows.getD 0 []) ((((c.rows.getD 0 []).tail 0).rows.getD 0 []) 0) (.i (k:Int))).bool
def agF(c:D):D:=.l (kpR (Bh c) 1000)
theorem aik{rs:List b8}{k:Nat}(V:rs.length<=1000)(hk:k<1000)(a b:D) :
  (bif ltI 0 (rs.length:Int) then nd (al (w64 ((rs.length:Int) - 1)) rs.length) (bif (rs.getD (w64 ((rs.length:Int) - 1)).toNat [] 1).int==(k:Int) then nd (al (w64 ((rs.length:Int) - 1)) rs.length) (nd (al (w64 ((rs.length:Int) - 1)) rs.length) (nx [a,b,.l (rs.set (w64 ((rs.length:Int) - 1)).toNat [rs.getD (w64 ((rs.length:Int) - 1)).toNat [] 0,.i (w64 ((rs.getD (w64 ((rs.length:Int) - 1)).toNat [] 1).int+1))]),.i (w64 ((k:Int)+1))]))
   else nd (bq (rs ++ [[.i (k:Int),.i (w64 ((k:Int)+1))]])&&true) (nx [a,b,.l (rs ++ [[.i (k:Int),.i (w64 ((k:Int)+1))]]),.i (w64 ((k:Int)+1))]))
  else nd (bq (rs ++ [[.i (k:Int),.i (w64 ((k:Int)+1))]])&&true) (nx [a,b,.l (rs ++ [[.i (k:Int),.i (w64 ((k:Int)+1))]]),.i (w64 ((k:Int)+1))]))
  = (nx [a,b,.l (Gg rs (k:Int) ((k:Int)+1)),.i ((k+1:Nat):Int)]:Out):=by
 have hw:w64 ((k:Int)+1)=(k:Int)+1:=br (by omega) (by omega);have O:bq (rs ++ [[D.i (k:Int),D.i ((k:Int)+1)]])=true:=bL (by simp;omega);have U:((k+1:Nat):Int)=(k:Int)+1:=by push_cast;rfl
 unfold Gg iV;rw[hw,O,U];cases Y:rs.length with
 | zero=>rfl
 | succ n =>
  have hn:n<n+1:=I7 n;have e1:w64 (((n+1:Nat):Int) - 1)=(n:Int):=mV (by omega);have e2:ltI 0 ((n+1:Nat):Int)=true:=gJ (by omega);simp only[e1,e2,bP hn,g4,aP,f8,s8,J5];cases J:((rs.getD n [] 1).int==(k:Int)) with
  | false=>rfl
  | true =>
   have J:(rs.getD n [] 1).int=(k:Int):=by simpa using J
   rw[J,hw];rfl
def akC:Ent:=(247,e1 (.one (.c (.fn 248 [.cptr [si,si] 0,.cptr [.bool] 0,.cptr [.sl 41] 0]))) fun p=>(⟨.one (.c (.own (0,0) true 41)),[agF (p 0)]⟩,true))
theorem ajX:aw f4 akC:=ck fun p h=>aq (N:=1001) (ks:=aeq) (ap (fC ⟨Nd,fN⟩)) Tryz.func247 fun hw=>by
 rw[aiB];have e:=bM (L:=Ns 1001 p) (fun k => [p 0,.l [],.l (kpR (Bh (p 0)) k),.i (k:Int)]) 1000 0 (fun k hk=>?_) ?_ (N:=1001) (by omega)
 ·simp only[g9] at e;rw[show kpR (Bh (p 0)) 0 = [] from rfl] at e;rw[e];rfl
 ·show Ns _ p [_,_,_,.i (k:Int)]=_;rw[aeS];have U:=abG (Bh (p 0)) k;have O:(ZO ((((p 0).rows.getD 0 []).tail.tail 0 0) 0) (((p 0).rows.getD 0 []) 0 0) ((((p 0).rows.getD 0 []).tail 0 0) 0) (.i (k:Int))).bool=Bh (p 0) k:=rfl;rw[O];simp only[aE,bp,show ltI (k:Int) 1000=true from gJ (by omega),f8];cases J:Bh (p 0) k
  ·have e2:kpR (Bh (p 0)) (k+1)=kpR (Bh (p 0)) k:=by rw[kpR];simp only[J,f5]
   rw[e2,aF hk (by decide)];rfl
  ·have e2:kpR (Bh (p 0)) (k+1)=Gg (kpR (Bh (p 0)) k) (k:Int) ((k:Int)+1):=by rw[kpR];simp only[J,f8]
   rw[e2];simp only[l8,f5];exact aik (by omega) hk _ _
 ·show Ns _ p [_,_,_,.i ((1000:Nat):Int)]=_;rw[aeS];rfl
abbrev KD:=find [xF,fQ,akC]
abbrev Ll:=[0,1,2,3,4,5,6,7,8,16,21]
theorem RY(N:Nat)(p q r:b8):aZ f4 KD N Ll Tryz.f193 (.tup [.c (.own (0,0) true 41),.c (.d (.bool))]) [⟨sd (.sl 41),p⟩,⟨ag ay,q⟩,⟨rb,r⟩]=some (bo,
 bif !(aV (p 0)) then some (1,[.l [],.b false])
 else bif !(ar (sub q 0 2)) then some (1,[.l [],.b false])
 else bif ltI 16 (agF (.l [[.l [sub q 0 2],.l [[r 0]],.l [[p 0]]]])) then some (1,[.l [],.b false])
 else some (1,[agF (.l [[.l [sub q 0 2],.l [[r 0]],.l [[p 0]]]]),.b true])):=by kernel_rfl
def ng(z:D)(a:b8)(wi:D):D:=agF (.l [[.l [sub a 0 2],.l [[wi]],.l [[z]]]])
def iQ(z:D)(a:b8)(wi:D):Bool:=aV z&&ar (sub a 0 2) && !(ltI 16 (ng z a wi))
def bX(z:D)(a:b8)(wi:D):b8:= [.l (bif iQ z a wi then (ng z a wi).rows else[]),.b (iQ z a wi)]
def zJ:Ent:=(193,e3 (sd (.sl 41)) (ag ay) rb fun p q r=>(⟨.tup [.c (.own (0,0) true 41),.c (.d (.bool))],sub (bX (p 0) q (r 0)) 0 2⟩,true))
theorem Du:aw f4 zJ:=em fun p q r h=>aq (N:=0) (ks:=Ll) (ap (fC ⟨yY,fC ⟨eV,fC ⟨ajX,fN⟩⟩⟩)) Tryz.func193 fun hw=>by rw[RY];show some (bo,_)=some (bo,some (1,bX (p 0) q (r 0)));refine congrArg (fun x=>some (bo,x)) ?_;unfold bX iQ;rw[show agF (.l [[.l [sub q 0 2],.l [[r 0]],.l [[p 0]]]])=ng (p 0) q (r 0) from rfl];cases aV (p 0) <;> cases ar (sub q 0 2) <;> cases ltI 16 (ng (p 0) q (r 0)) <;> rfl
abbrev zk:=find [zJ]
abbrev zb:=[0,1,3,4,5]
theorem Jx(N:Nat)(p q:b8):aZ f4 zk N zb Tryz.f76 (.tup [.c (.own (0,0) true 41),.c (.d (.bool))]) [⟨sd (.sl 41),p⟩,⟨ag ay,q⟩]=some (bo,
 some (1,sub (bX (p 0) (sub q 0 2) (.b true)) 0 2)):=by kernel_rfl
def yK:Ent:=(76,e2 (sd (.sl 41)) (ag ay) fun p q=>(⟨.tup [.c (.own (0,0) true 41),.c (.d (.bool))],sub (bX (p 0) q (.b true)) 0 2⟩,true))
theorem Jo:aw f4 yK:=bj fun p q h=>aq (N:=0) (ks:=zb) (ap (fC ⟨Du,fN⟩)) Tryz.func76 fun hw=>by rw[Jx];rfl
abbrev Qh:=find []
theorem TA:av f4 Qh:=ap (fN)
abbrev QR:=[0,2]
theorem WB(N:Nat)(p:b8):aZ f4 Qh N QR Tryz.f255 rb [⟨ri,p⟩]=some (bo,
 ob ((p 0).int != (p 0).int)):=by kernel_rfl
def Qp:Ent:=(255,e1 ri fun p=>(⟨rb,[.b false]⟩,true))
theorem WO:aw f4 Qp:=ck fun p h=>aq (N:=0) (ks:=QR) TA Tryz.func255 fun hw=>by rw[WB];rw[show ((p 0).int != (p 0).int)=false from I1 _]
abbrev Xw:=find []
theorem VO:av f4 Xw:=ap (fN)
abbrev Wy:=[0,2]
theorem Yu(N:Nat)(p:b8):aZ f4 Xw N Wy Tryz.f215 rb [⟨ri,p⟩]=some (bo,
 ob ((p 0).int != (p 0).int)):=by kernel_rfl
def Xo:Ent:=(215,e1 ri fun p=>(⟨rb,[.b false]⟩,true))
theorem ZP:aw f4 Xo:=ck fun p h=>aq (N:=0) (ks:=Wy) VO Tryz.func215 fun hw=>by rw[Yu];rw[show ((p 0).int != (p 0).int)=false from I1 _]
abbrev Lj:=find [Qp]
abbrev Mp:=[0,1,4]
theorem TQ(N:Nat)(p q:b8):aZ f4 Lj N Mp Tryz.f214 rb [⟨ri,p⟩,⟨ri,q⟩]=some (bo,
 bif false then bif !false then ob true
 else ob (ltI (p 0).int (q 0).int)
 else ob (ltI (p 0).int (q 0).int)):=by kernel_rfl
def Le:Ent:=(214,e2 ri ri fun p q=>(⟨rb,[.b (ltI (p 0).int (q 0).int)]⟩,true))
theorem Tp:aw f4 Le:=bj fun p q h=>aq (N:=0) (ks:=Mp) (ap (fC ⟨WO,fN⟩)) Tryz.func214 fun hw=>by rw[TQ];rfl
abbrev afA:=find [Le,Xo]
abbrev aeX:=[0,1,4,5,6,7,8,9,15,27]
def Yi(N:Nat)(p q:b8):b8->Out:=bc f4 afA N aeX Tryz.f116 (.tup [.c (.d si),.c (.d (.bool))]) [⟨sd (.sl 3),p⟩,⟨ri,q⟩] 0
theorem amg(N:Nat)(p q:b8)(U V x2 Z Y O J:D):(Yi N p q) [U,V,x2,Z,Y,O,J] =
 bif ltI O.int J.int then nd (leI 0 1) (nd (al (w64 ((IntKind.u64.wrap (w64 (O.int+J.int))).fdiv (2 ^ (min 1 64)))) U.rows.length) (bif ltI (U.rows.getD (w64 ((IntKind.u64.wrap (w64 (O.int+J.int))).fdiv (2 ^ (min 1 64)))).toNat [] 0).int V.int then nx [U,V,x2,Z,Y,.i (w64 ((w64 ((IntKind.u64.wrap (w64 (O.int+J.int))).fdiv (2 ^ (min 1 64))))+1)),J]
 else nx [U,V,x2,Z,Y,O,.i (w64 ((IntKind.u64.wrap (w64 (O.int+J.int))).fdiv (2 ^ (min 1 64))))]))
 else ex 0 [U,V,x2,Z,Y,O,J]:=by kernel_rfl
def alQ(N:Nat)(p q:b8)(J:Out):Out:=nd (al (J.pay 5).int (J.pay 0).rows.length) (bif false then some (1,[J.pay 5,.b false]) else some (1,[J.pay 5,.b false]))
def alI(N:Nat)(p q:b8)(J:Out):Out:=bif (((J.pay 0).rows.getD (J.pay 5).int.toNat []) 0).int==(J.pay 1).int then some (1,[J.pay 5,.b true]) else (alQ N p q J)
def alN(N:Nat)(p q:b8)(J:Out):Out:=bif ltI (J.pay 5).int (J.pay 4).int then nd (al (J.pay 5).int (J.pay 0).rows.length) (alI N p q J) else some (1,[J.pay 5,.b false])
def ago(N:Nat)(p q:b8):Out:=let J:Out:=ba (Yi N p q) N [p 0,q 0,.i 0,.i 0,.i (p 0:Int),.i 0,.i (p 0:Int)];nd J.isSome (nd (J.code==2) (alN N p q J))
theorem aju(N:Nat)(p q:b8):aZ f4 afA N aeX Tryz.f116 (.tup [.c (.d si),.c (.d (.bool))]) [⟨sd (.sl 3),p⟩,⟨ri,q⟩]=some (bo,(ago N p q)):=by kernel_rfl
theorem Ka{z:D}(h:(ai z).Pairwise (· < ·)){i j:Nat}(J:i<j)(O:j<z.rows.length):bI z i<bI z j:=by
 have h1:=cP z i (by omega);have U:=cP z j O;obtain⟨V,e1⟩:=g5.1 h1;obtain⟨Y,e2⟩:=g5.1 U;have:=t9.1 h i j V Y J
 rwa [e1,e2] at this
theorem ait{z:D}(h:(ai z).Pairwise (· < ·))(t:Int):∀m,m<=z.rows.length->∃i,i<=m/\(∀k,k<i->bI z k<t)/\∀k,i<=k->k<m->t<=bI z k
 | 0,_=>⟨0,g8 _,fun k hk=>absurd hk (D5 _),fun k _ hk=>absurd hk (D5 _)⟩
 | m+1,hm=>by
  obtain⟨i,h1,U,V⟩:=ait h t m (by omega);by_cases hi:i<m
  ·refine⟨i,by omega,U,fun k J O=>?_⟩;rcases A6 k m with h4 | h4
   ·exact V k J h4
   ·obtain rfl:k=m:=by omega
    have Z:=V i (g8 _) hi;have a2:=Ka h hi (show k<z.rows.length by omega);omega
  ·obtain rfl:i=m:=by omega
   by_cases Y:bI z i<t
   ·refine⟨i+1,g8 _,fun k hk=>?_,fun k J O=>by omega⟩;rcases A6 k i with h4 | h4
    ·exact U k h4
    ·obtain rfl:k=i:=by omega
     exact Y
   ·refine⟨i,by omega,U,fun k J O=>?_⟩;obtain rfl:k=i:=by omega
    omega
theorem Kn{z:D}(h:(ai z).Pairwise (· < ·))(t:Int):bl z t<=z.rows.length/\(∀k,k<bl z t->bI z k<t)/\∀k,bl z t<=k->k<z.rows.length->t<=bI z k:=by obtain⟨i,h1,O,J⟩:=ait h t _ (g8 _);rw[qB h1 O J];exact⟨h1,O,J⟩
theorem ada(p q:b8)(N:Nat)(hz:(ai (p 0)).Pairwise (· < ·))(a0:(p 0).rows.length<=40000):∀(d i j M:Nat),j=i+d->j<=(p 0).rows.length->d<M->(∀k,k<i->bI (p 0) k<(q 0).int)->(∀k,j<=k->k<(p 0).rows.length->(q 0).int<=bI (p 0) k) ->
  ba (Yi N p q) M [p 0,q 0,.i 0,.i 0,.i (p 0:Int),.i (i:Int),.i (j:Int)]=some (2,[p 0,q 0,.i 0,.i 0,.i (p 0:Int),.i (bl (p 0) (q 0).int:Int),.i (bl (p 0) (q 0).int:Int)]):=by
 intro d
 induction d using Nat.strongRecOn with
 | _ d V =>
 intro i j M hj hn hM h1 U;obtain⟨M,rfl⟩:∃M',M=M'+1:=⟨M - 1,by omega⟩;rw[ba,amg];simp only[aE];by_cases Z:d=0
 ·subst Z;obtain rfl:j=i:=by omega
  rw[bF,qB hn h1 U];rfl
 ·rw[cy (show i<j from by omega)];have J:(i+j) / 2<(p 0).rows.length:=by omega
  simp only[akI (show i+j<=100000 from by omega),bn J,g4,show leI 0 1=true from rfl,aP];rw[show (p 0 ((i+j) / 2) 0).int=bI (p 0) ((i+j) / 2) from rfl];by_cases Y:bI (p 0) ((i+j) / 2)<(q 0).int
  ·rw[gJ Y,f8];simp only[aF J (show (p 0).rows.length<=9223372036854775807 from by omega)];exact V (j - ((i+j) / 2+1)) (by omega) ((i+j) / 2+1) j M (by omega) hn (by omega) (fun k a2=>by
    rcases A6 k ((i+j) / 2) with h | h
    ·have:=Ka hz h J;omega
    ·obtain rfl:k=(i+j) / 2:=by omega
     exact Y) U
  ·rw[gh (show (q 0).int<=bI (p 0) ((i+j) / 2) from by omega),f5];exact V ((i+j) / 2 - i) (by omega) i ((i+j) / 2) M (by omega) (by omega) (by omega) h1 (fun k a1 O=>by
    rcases A6 ((i+j) / 2) k with h | h
    ·have:=Ka hz h O;omega
    ·obtain rfl:k=(i+j) / 2:=by omega
     omega)
def ahh:Ent:=(116,e2 (sd (.sl 3)) ri fun p q=>(⟨.tup [.c (.d si),.c (.d (.bool))],[.i (bl (p 0) (q 0).int:Int),.b (bsB (p 0) (q 0).int)]⟩,iR (p 0)&&leI (p 0) 40000))
theorem abt:aw f4 ahh:=bj fun p q h=>aq (N:=(p 0).rows.length+1) (ks:=aeX) (ap (fC ⟨Tp,fC ⟨ZP,fN⟩⟩)) Tryz.func116 fun hw=>by
 rw[aju];have h:(iR (p 0)&&leI (p 0) 40000)=true:=h;simp only[a9,leI,f7] at h;have hz:=Oe h.1;have J:(p 0).rows.length<=40000:=by have:=h.2;omega
 have e:=ada p q ((p 0).rows.length+1) hz J (p 0).rows.length 0 (p 0).rows.length ((p 0).rows.length+1) (by omega) (g8 _) (by omega) (fun k hk=>absurd hk (D5 _)) (fun k h1 U=>absurd U (by omega));simp only[g9] at e;unfold ago;rw[e];show some (bo,bif ltI (bl (p 0) (q 0).int:Int) (p 0:Int) then nd (al (bl (p 0) (q 0).int:Int) (p 0).rows.length) (bif bI (p 0) (Int.toNat (bl (p 0) (q 0).int:Int))==(q 0).int then some (1,[.i (bl (p 0) (q 0).int:Int),.b true]) else nd (al (bl (p 0) (q 0).int:Int) (p 0).rows.length) (some (1,[.i (bl (p 0) (q 0).int:Int),.b false]))) else some (1,[.i (bl (p 0) (q 0).int:Int),.b false]))=_;rw[g4];unfold bsB;by_cases O:bl (p 0) (q 0).int<(p 0).rows.length
 ·rw[fI O,bP O];cases bI (p 0) (bl (p 0) (q 0).int)==(q 0).int <;> rfl
 ·rw[gh (show (p 0:Int)<=(bl (p 0) (q 0).int:Int) from by omega)];rfl
end Go.Proofs.YtpdfmcmnjikppaaGreat
namespace Go.Proofs.YtpdfmcmnjikppaaGreat.HI
open Go.RowKit Go.Lib Go.Proofs.YtpdfmcmnjikppaaGreat.H
set_option maxRecDepth 100000
set_option maxHeartbeats 4000000
abbrev zi:Value:=.int .i64 0
theorem info_int:(Tryz.prog.info? 3).map (fun i=>(i.zero,i.size,i.bytes))=some (some zi,1,8):=by kernel_rfl
theorem ins_shift(b off n c i k U J vc:Nat)(cs vs:List Value)(w:World)(hk:k=i+1)(hi:i<n)(c8:n+1<=c)(d1:c<=9223372036854775807)(b3:U≠b)
  (c7:cs.length=n) (a4:vs.length=1)
  (b4:∀j v,cs[j]?=some v->w.cell? ⟨b,off+j,none⟩=some v) (a0:∀j,j<(n+1)->(w.cell? ⟨b,off+j,none⟩).isSome=true) (a5:∀j,j<(n+1)->w.frozen? ⟨b,off+j,none⟩=false)
  (b2:∀j v,vs[j]?=some v->w.cell? ⟨U,J+j,none⟩=some v) (c1:∀v∈cs,v.oneCell'=true) (c5:∀v∈vs,v.oneCell'=true)
  (tA tB:TypeId) (kA kB:Nat) (a7:w.shape? U=some (tA,kA)) (a8:w.shape? b=some (tB,kB)) (c0:kB≠0) (a6:w.frozen? ⟨U,J,none⟩=false) (b5:w.frozen? ⟨U,kA,none⟩=false) :
  Calls f4 195 #[.slice (some ⟨b,off,none⟩) n c,.int .i64 i,.slice (some ⟨U,J,none⟩) 1 vc] w fun e w' =>
   e=.returned (.slice (some ⟨b,off,none⟩) (n+1) c)/\w'=(w.drew.setCells b (off+k) (cs.drop (i))).setCells b (off+i) vs:=by
 obtain⟨i0,c4,e9,c3,e7⟩:=info_parts info_int;have c9:Tryz.prog.follows .mixedOrders=true:=by kernel_rfl
 have hz2:¬((i:Int)=(n:Int)):=by omega
 have b0:(Tryz.prog.info? 3).map (·.size)=some 1:=by rw[c4];simp[c3]
 have a1:=Tryz.underlying26;have c6:∀lb cb,(callFunc 250 #[.slice (some ⟨U,J,none⟩) 1 vc,.slice (some ⟨b,off+k,none⟩) lb cb]).run f4 w=.ok (.value (.bool false)) w:=fun lb cb=>by
  rw[run_callFunc_extern Tryz.func250 (by kernel_rfl) (by kernel_rfl) (by kernel_rfl) (e:=Extern.SlicesOverlaps.overlaps #[26,26] #[4]) (by kernel_rfl),
   Lib.run_overlaps_apart w 26 4 3 a1 1 Tryz.sizeOf3 ⟨U,J,none⟩ ⟨b,off+k,none⟩ 1 vc lb cb b3 tA tB kA kB a7 a8 c0 a6 b5]
  rfl
 have Y:(cs.drop (i)).length=(n - i):=by rw[t5,c7]
 have a3:∀ty Z sc,(Builtin.copy_ #[26,26] ty #[.slice (some ⟨b,off+k,none⟩) (n+1 - k) Z,.slice (some ⟨b,off+i,none⟩) (n+1 - i) sc]).run f4 w.drew=.ok (goInt ((n - i:Nat):Int)) (w.drew.setCells b (off+k) (cs.drop (i))):=fun ty Z sc =>
  fy w.drew _ _ ty 3 1 b (off+k) (n - i) (n+1 - k) Z ⟨b,off+i,none⟩ (n+1 - i) sc (cs.drop (i)) a1 b0 (by simp only[G3];split <;> omega) (Y.trans (I2 _).symm)
   (fun j v O=>by rw[z8,p8];exact b4 (i+j) v (by rwa [y0] at O))
   (fun j O=>by rw[Y] at O;rw[p8];exact a0 _ (by omega)) (fun j O=>by rw[Y] at O;rw[p8];exact a5 _ (by omega)) (fun v hv=>c1 v (B7 hv))
 obtain⟨W1,V⟩:∃W1,W1=w.drew.setCells b (off+k) (cs.drop (i)):=⟨_,rfl⟩;have a2:∀t,t<(n+1)->(W1.cell? ⟨b,off+t,none⟩).isSome=true:=fun t ht=>by rw[V];exact ir b _ _ _ (fun j O=>by rw[Y] at O;rw[p8];exact a0 _ (by omega)) _ (a0 t ht)
 have b6:∀(W:World),(∀x,W.cell? x=W1.cell? x)->(∀x,W.frozen? x=W1.frozen? x)->∀ty Z,(Builtin.copy_ #[26,26] ty #[.slice (some ⟨b,off+i,none⟩) (n+1 - i) Z,.slice (some ⟨U,J,none⟩) 1 vc]).run f4 W=.ok (goInt 1) (W.setCells b (off+i) vs):=fun W b1 c2 ty Z =>
  fy W _ _ ty 3 1 b (off+i) 1 (n+1 - i) Z ⟨U,J,none⟩ 1 vc vs a1 b0 (by simp only[G3];split <;> omega) (by rw[a4])
   (fun j v O=>by rw[z8,b1,V,E2 b _ _ _ _ (fun h _=>absurd h b3)];exact b2 j v O)
   (fun j O=>by rw[a4] at O;rw[b1,p8];exact a2 _ (by omega)) (fun j O=>by rw[a4] at O;rw[c2,V,D8,p8];exact a5 _ (by omega)) c5
 have hE:Hid (W1=w.drew.setCells b (off+k) (cs.drop (i))):=V;rw[<- V] at a3;have e6:IntKind.i64.wrap ((n:Int)+1)=((n+1:Nat):Int):=by rw[A3];omega
 have d5:IntKind.i64.wrap ((i:Int)+1)=(k:Int):=by rw[A3];omega
 have e0:¬((n:Int)+1 > (c:Int)):=by omega
 have f0:¬(c=k):=by omega
 have f1:¬(c=i):=by omega
 have hin:i<=n:=by omega
 have d4:(k:Int)<=(n:Int)+1:=by omega
 have d2:(i:Int)<=(n:Int)+1:=by omega
 have d3:i<=n+1:=by omega
 clear a0 a5 b4 b2 a2 V a7 a8 a6 b5 hk Y;go_enter Tryz.func195,Tryz.ntmps195
 go_wp2_with (simp only[c6])
 go_region_law_o (refine step_copy_runI rfl _ _ 26 26 rfl _ _ (by simp[Act.eval,Act.put]) (by simp[Act.eval,Act.put]) (a3 _ _ _) ?_)
 go_wp2_with (at_builtin;refine wpList_copy_runI _ rfl _ _ 26 26 rfl _ _ rfl rfl (b6 _ (fun _=>rfl) (fun _=>rfl) _ _) ?_)
 go_ret
 exact⟨rfl,by rw[hE.out]⟩
theorem ins_end(base:Option Addr)(n c U J vc:Nat)(w w1:World)(O:Value)(a1:n<=c)(a0:c<=9223372036854775807)(hb:base=none->c=0)(V:∀ty,(Builtin.append_ #[26,26] ty #[.slice base n c,.slice (some ⟨U,J,none⟩) 1 vc]).run f4 w=.ok O w1) :
  Calls f4 195 #[.slice base n c,.int .i64 n,.slice (some ⟨U,J,none⟩) 1 vc] w fun e w'=>e=.returned O/\w'=w1:=by
 have Y:Tryz.prog.follows .mixedOrders=true:=by kernel_rfl
 cases base with
 | none =>
  have Z:=hb rfl;subst Z;obtain rfl:n=0:=by omega
  go_enter Tryz.func195,Tryz.ntmps195
  go_wp2_with (at_builtin;refine Lib.wpList_append_run _ rfl _ _ _ _ rfl _ _ rfl rfl _ _ (V _) ?_)
  all_goals (go_ret;exact⟨rfl,rfl⟩)
 | some a =>
  obtain⟨ab,ao,a2⟩:=a;go_enter Tryz.func195,Tryz.ntmps195
  go_wp2_with (at_builtin;refine Lib.wpList_append_run _ rfl _ _ _ _ rfl _ _ rfl rfl _ _ (V _) ?_)
  all_goals (go_ret;exact⟨rfl,rfl⟩)
theorem ins_grow(b off n i k vb a0 vc:Nat)(cs U:List Value)(w:World)(hk:k=i+1)(hi:i<n)(c4:(n+1)*8<=140737488355328)
  (c1:cs.length=n) (a7:U.length=1)
  (a4:∀j v,cs[j]?=some v->w.cell? ⟨b,off+j,none⟩=some v)
  (b3:∀j v,U[j]?=some v->w.cell? ⟨vb,a0+j,none⟩=some v) (d5:∀v∈cs,v.oneCell'=true) (e6:∀v∈U,v.oneCell'=true) :
  Calls f4 195 #[.slice (some ⟨b,off,none⟩) n n,.int .i64 i,.slice (some ⟨vb,a0,none⟩) 1 vc] w fun e w' =>
   e=.returned (.slice (some ⟨w.heap.size,0,none⟩) (n+1) (grownCap w (n+1) n 3)) /\
   w'=(((w.alloc (.cells ((cs.take (i)).toArray++Builtin.zeroCells zi.cells (n+1 - i)++Builtin.zeroCells zi.cells (grownCap w (n+1) n 3 - (n+1))) 3)).drew.setCells w.heap.size (i) U).drew).setCells w.heap.size (k) (cs.drop (i)):=by
 obtain⟨i0,c0,c5,b2,b4⟩:=info_parts info_int;have f0:Tryz.prog.follows .mixedOrders=true:=by kernel_rfl
 have a5:=Tryz.underlying26;have u3:=Tryz.underlying3;have hz2:¬((i:Int)=(n:Int)):=by omega
 have b1:(Tryz.prog.info? 3).map (·.size)=some 1:=by rw[c0];simp[b2]
 have d3:b<w.heap.size:=block_lt_of_cell (a4 0 _ (g6 (by omega)));have c6:vb<w.heap.size:=block_lt_of_cell (b3 0 _ (g6 (by omega)));have b0:i+(n+1 - i)=n+1:=by omega
 have a8:(Builtin.firstCells i0.size i (.slice (some ⟨b,off,none⟩) i n)).run f4 w.drew=.ok (cs.take (i)).toArray w.drew:=by
  rw[b2];exact run_firstCells_some w.drew 1 i ⟨b,off,none⟩ i n (cs.take (i)) (by rw[s9];omega) (fun j v O=>by
   rw[z8];rw[s7] at O
   split at O
   ·exact a4 j v O
   ·cases O)
 have g3:IntKind.i64.wrap (((n+1:Nat):Int) - (i:Int))=((n+1 - i:Nat):Int):=by rw[A3];omega
 have a3:∀V,(Builtin.append_ #[26,3] V #[.slice (some ⟨b,off,none⟩) i n,.int .i64 ((n+1 - i:Nat):Int)]).run f4 w =
   .ok (.slice (some ⟨w.heap.size,0,none⟩) (n+1) (grownCap w (n+1) n 3)) (w.drew.alloc (.cells ((cs.take (i)).toArray++Builtin.zeroCells zi.cells (n+1 - i)++Builtin.zeroCells zi.cells (grownCap w (n+1) n 3 - (n+1))) 3)):=fun V=>by
  have h:=Lib.run_append_grow_zeros w 26 3 V 3 i0 zi .i64 .i64 a5 u3 c0 c5 (some ⟨b,off,none⟩) i n (cs.take (i)) a8 (n+1 - i) (by omega) (by omega) (by omega) (by omega) (by rw[b4];omega) (by rw[b4,b0];exact growslice_fits (by omega) c4);rw[b0] at h;exact h
 obtain⟨G,hG⟩:∃G,G=grownCap w (n+1) n 3:=⟨_,rfl⟩;obtain⟨J,a2⟩:∃J:Array Value,J=(cs.take (i)).toArray++Builtin.zeroCells zi.cells (n+1 - i)++Builtin.zeroCells zi.cells (G - (n+1)):=⟨_,rfl⟩;rw[<- hG] at a3 ⊢;rw[<- a2] at a3 ⊢;have d1:(n+1)<=J.size:=by rw[a2];simp[Builtin.zeroCells,Value.cells,c1];omega
 obtain⟨Y,Z⟩:∃Y,Y=w.drew.alloc (.cells J 3):=⟨_,rfl⟩;rw[<- Z] at a3;have hN:∀j,j<(n+1)->(Y.cell? ⟨w.heap.size,j,none⟩).isSome=true:=fun j O=>by rw[Z,N1 (w:=w.drew) J _ w.heap.size j rfl,n3 (by omega)];rfl
 have b6:∀j,Y.frozen? ⟨w.heap.size,j,none⟩=false:=fun j=>by rw[Z];exact L8 (w:=w.drew) J _ w.heap.size j rfl
 have d2:∀j v,w.cell? ⟨b,j,none⟩=some v->Y.cell? ⟨b,j,none⟩=some v:=fun j v h=>by rw[Z,F7 (w:=w.drew) _ b j d3];exact h
 have e0:∀j v,w.cell? ⟨vb,j,none⟩=some v->Y.cell? ⟨vb,j,none⟩=some v:=fun j v h=>by rw[Z,F7 (w:=w.drew) _ vb j c6];exact h
 have c3:∀(W:World),(∀x,W.cell? x=Y.cell? x)->(∀x,W.frozen? x=Y.frozen? x)->∀V dc,(Builtin.copy_ #[26,26] V #[.slice (some ⟨w.heap.size,i,none⟩) (n+1 - i) dc,.slice (some ⟨vb,a0,none⟩) 1 vc]).run f4 W=.ok (goInt 1) (W.setCells w.heap.size (i) U):=fun W a1 a6 V dc =>
  fy W _ _ V 3 1 w.heap.size (i) 1 (n+1 - i) dc ⟨vb,a0,none⟩ 1 vc U a5 b1 (by simp only[G3];split <;> omega) (by rw[a7])
   (fun j v O=>by rw[z8,a1];exact e0 _ v (b3 j v O))
   (fun j O=>by rw[a7] at O;rw[a1];exact hN _ (by omega)) (fun j O=>by rw[a6];exact b6 _) e6
 have h3:n+1<=G:=by rw[hG];exact grownCap_ge w _ _ _
 have f2:G<=9223372036854775807:=by have:=grownCap_le_maxLen w (n+1) n 3 (by unfold maxLen;omega);rw[<- hG] at this;unfold maxLen at this;omega
 have c9:b≠w.heap.size:=by omega
 have b5:(cs.drop (i)).length=(n - i):=by rw[t5,c1]
 have c2:∀(W:World),(∀x,W.cell? x=(Y.setCells w.heap.size (i) U).cell? x)->(∀x,W.frozen? x=(Y.setCells w.heap.size (i) U).frozen? x)->∀V dc sc,(Builtin.copy_ #[26,26] V #[.slice (some ⟨w.heap.size,k,none⟩) (n+1 - k) dc,.slice (some ⟨b,off+i,none⟩) (n - i) sc]).run f4 W=.ok (goInt ((n - i:Nat):Int)) (W.setCells w.heap.size (k) (cs.drop (i))):=fun W a1 a6 V dc sc =>
  fy W _ _ V 3 1 w.heap.size (k) (n - i) (n+1 - k) dc ⟨b,off+i,none⟩ (n - i) sc (cs.drop (i)) a5 b1 (by simp only[G3];split <;> omega) (b5.trans (I2 _).symm)
   (fun j v O=>by rw[z8,a1,E2 _ _ _ _ _ (fun h _=>absurd h c9),p8];exact d2 _ v (a4 (i+j) v (by rwa [y0] at O)))
   (fun j O=>by rw[b5] at O;rw[a1];exact ir _ _ _ _ (fun t ht=>by rw[a7] at ht;exact hN _ (by omega)) _ (hN _ (by omega)))
   (fun j O=>by rw[a6,D8];exact b6 _) (fun v hv=>d5 v (B7 hv))
 subst Z;have c7:∀x,((w.alloc (.cells J 3)).drew).cell? x=(w.drew.alloc (.cells J 3)).cell? x:=fun x=>rfl
 have c8:∀x,((w.alloc (.cells J 3)).drew).frozen? x=(w.drew.alloc (.cells J 3)).frozen? x:=fun x=>rfl
 have d4:∀x,(((w.alloc (.cells J 3)).drew.setCells w.heap.size (i) U).drew).cell? x=((w.drew.alloc (.cells J 3)).setCells w.heap.size (i) U).cell? x:=fun x=>rfl
 have e7:∀x,(((w.alloc (.cells J 3)).drew.setCells w.heap.size (i) U).drew).frozen? x=((w.drew.alloc (.cells J 3)).setCells w.heap.size (i) U).frozen? x:=fun x=>rfl
 have h0:IntKind.i64.wrap ((n:Int)+1)=((n+1:Nat):Int):=by rw[A3];omega
 have g2:IntKind.i64.wrap ((i:Int)+1)=(k:Int):=by rw[A3];omega
 have h5:IntKind.i64.wrap ((n:Int)+1 - (i:Int))=((n+1 - i:Nat):Int):=by rw[A3];omega
 have g1:(n:Int)+1 - (i:Int)=((n+1 - i:Nat):Int):=by omega
 have h6:(n:Int)+1 > (n:Int):=by omega
 have h4:¬(n=i):=by omega
 have h7:¬(G=i):=by omega
 have h2:¬(G=k):=by omega
 have hin:i<=n:=by omega
 have f3:(i:Int)<=(n:Int):=by omega
 have f1:(k:Int)<=(n:Int)+1:=by omega
 have e9:(i:Int)<=(n:Int)+1:=by omega
 clear a8 a2 hG d1 b0 hk;go_enter Tryz.func195,Tryz.ntmps195
 go_wp2_with (first
  | (at_builtin;refine Lib.wpList_append_run _ rfl _ _ _ _ rfl _ _ rfl rfl _ _ (a3 _) ?_)
  | (at_builtin;refine wpList_copy_runI _ rfl _ _ 26 26 rfl _ _ rfl rfl (c3 _ c7 c8 _ _) ?_))
 go_region_law_o (refine step_copy_runI rfl _ _ 26 26 rfl (.slice (some ⟨w.heap.size,k,none⟩) (n+1 - k) (G - k)) (.slice (some ⟨b,off+i,none⟩) (n - i) (n - i)) (by simp[Act.eval,Act.put]) (by simp[Act.eval,Act.put]) (c2 _ d4 e7 3 (G - k) (n - i)) ?_)
 go_wp2
 go_ret
 exact⟨rfl,rfl⟩
end Go.Proofs.YtpdfmcmnjikppaaGreat.HI
namespace Go.Proofs.YtpdfmcmnjikppaaGreat
set_option maxRecDepth 100000
set_option maxHeartbeats 4000000
open Go.RowKit Go.Lib
def bz(rows:List b8):List Value:=rows.map fun r=>.int .i64 (r 0).int
theorem lG(rows:List b8):(bz rows).length=rows.length:=by simp[bz]
theorem ug(a b:List b8):bz (a++b)=bz a++bz b:=by simp[bz]
theorem UJ(rows:List b8)(i:Nat):bz (rows.take i)=(bz rows).take i:=by simp[bz]
theorem Wa(rows:List b8)(i:Nat):bz (rows.drop i)=(bz rows).drop i:=by simp[bz]
theorem Nu(rows:List b8)(i:Nat)(h:i<rows.length):(bz rows)[i]?=some (.int .i64 (rows.getD i [] 0).int):=by simp[bz,g6 h,f9]
theorem pj(rows:List b8):∀v∈bz rows,v.oneCell'=true:=fun v hv=>by obtain⟨r,_,rfl⟩:=y4.1 hv;rfl
theorem JV{w:World}{rows:List b8}{b cap n:Nat}{J:Array Value}(V:w.heap[b]?=some (.cells J 3 (0,0)))(hn:n=rows.length)(hs:J.size=cap)(U:rows.length<=cap)(O:cap<=9223372036854775807)
  (Y:∀(k:Nat) v,(bz rows)[k]?=some v->J[k]?=some v):dg w 3 [.int .i64] rows (.slice (some ⟨b,0,none⟩) n cap) (some b):=by
 subst hn;refine .inr ⟨b,cap,J,rfl,rfl,U,O,V,by rw[hs];exact (I2 _).symm,fun i j s hi hs=>?_⟩
 match j,hs with
 | 0,hs =>
  injection hs with hs
  subst hs;exact⟨_,by rw[show i * [S.int .i64].length+0=i from I2 i];exact Y i _ (Nu rows i hi),rfl⟩
theorem Lx{w:World}{rows:List b8}{u:Value}{B:Option Nat}(h:dg w 3 [.int .i64] rows u B):(B=none/\rows = []/\∃A,u=.slice A 0 0) \/
  ∃(b cap:Nat) (J:Array Value),B=some b/\u=.slice (some ⟨b,0,none⟩) rows.length cap/\rows.length<=cap/\cap<=9223372036854775807/\w.heap[b]?=some (.cells J 3 (0,0))/\J.size=cap /\
   ∀(k:Nat) v,(bz rows)[k]?=some v->J[k]?=some v:=by
 rcases h with h | ⟨b,cap,J,h1,h2,h3,h4,h5,h6,h7⟩
 ·exact .inl h
 ·refine .inr ⟨b,cap,J,h1,h2,h3,h4,h5,h6.trans (I2 _),fun k v hk=>?_⟩;have O:=(g5.1 hk).1;rw[lG] at O;rw[Nu rows k O] at hk;obtain⟨u,U,V⟩:=h7 k 0 (.int .i64) O rfl;rw[show k * [S.int .i64].length+0=k from I2 k] at U;rw[U,<- hk];exact congrArg some V
theorem Gi{w:World}{e:TypeId}{rows J:List b8}{u:Value}{B:Option Nat}(h:dg w e [.int .i64] rows u B)(hn:rows.map (fun r=>(r 0).int)=J.map (fun r=>(r 0).int)):dg w e [.int .i64] J u B:=by
 have Y:rows.length=J.length:=by simpa using congrArg List.length hn
 rcases h with⟨h1,O,Z⟩ | ⟨b,cap,arr,h1,O,Z,h4,h5,h6,h7⟩
 ·exact .inl ⟨h1,t6 (by rw[<- Y,O];rfl),Z⟩
 ·refine .inr ⟨b,cap,arr,h1,by rw[<- Y];exact O,by omega,h4,h5,h6,fun i j s hi hs=>?_⟩
  match j,hs with
  | 0,hs =>
   injection hs with hs
   subst hs;obtain⟨V,k1,U⟩:=h7 i 0 (.int .i64) (by omega) rfl;refine⟨V,k1,?_⟩;have e1:(rows.map (fun r=>(r 0).int))[i]?=(J.map (fun r=>(r 0).int))[i]?:=by rw[hn]
   rw[u6,u6,g6 (by omega),g6 hi] at e1;have e2:(rows.getD i [] 0).int=(J.getD i [] 0).int:=by simpa [f9,g6 (show i<rows.length by omega),g6 hi] using e1
   have U:V=.int .i64 (rows.getD i [] 0).int:=U;show V=.int .i64 (J.getD i [] 0).int;rw[U,e2]
theorem aeZ{w:World}{rows:List b8}{r:b8}{base:Option Addr}{n c:Nat}{B:Option Nat}(hO:dg w 3 [.int .i64] rows (.slice base n c) B)(Z J vc:Nat)(hn:rows.length<=1000000)
  (hv:∀(k:Nat) v,(bz [r])[k]?=some v->w.cell? ⟨Z,J+k,none⟩=some v) :
  ∃v' w1 B',(∀Y,(Builtin.append_ #[26,26] Y #[.slice base n c,.slice (some ⟨Z,J,none⟩) 1 vc]).run f4 w=.ok v' w1)/\aI w w1 B/\dg w1 3 [.int .i64] (rows ++ [r]) v' B'/\∀b,B'=some b->B=some b\/w.heap.size<=b:=by
 obtain⟨i0,a1,a5,V,a3⟩:=info_parts HI.info_int;have a0:(bz [r]).length=1*i0.size:=by rw[V];rfl
 have O:∀(j:Nat) v,(bz [r])[j]?=some v->w.cell? ((⟨Z,J,none⟩:Addr).add j)=some v:=fun j v hj=>by rw[z8];exact hv j v hj
 have b1:HI.zi.cells.size=1:=rfl
 -- a new block
 have a6:∀(old:Nat),(w.drew.alloc (.cells ((bz rows).toArray++(bz [r]).toArray++Builtin.zeroCells HI.zi.cells (grownCap w (rows.length+1) old 3 - (rows.length+1))) 3)).heap.size=w.heap.size+1 /\
   aI w (w.drew.alloc (.cells ((bz rows).toArray++(bz [r]).toArray++Builtin.zeroCells HI.zi.cells (grownCap w (rows.length+1) old 3 - (rows.length+1))) 3)) B /\
   dg (w.drew.alloc (.cells ((bz rows).toArray++(bz [r]).toArray++Builtin.zeroCells HI.zi.cells (grownCap w (rows.length+1) old 3 - (rows.length+1))) 3)) 3 [.int .i64] (rows ++ [r]) (.slice (some ⟨w.heap.size,0,none⟩) (rows.length+1) (grownCap w (rows.length+1) old 3)) (some w.heap.size):=by
  intro old;have a4:=grownCap_ge w (rows.length+1) old 3;have b0:=grownCap_le_maxLen w (rows.length+1) old 3 (by unfold maxLen;omega);refine⟨by simp[World.alloc],⟨rfl,rfl,rfl,by simp[World.alloc],fun k hk _=>Below.heap_alloc w.drew _ k hk⟩,JV (by letI:Low:=yO;exact fw w.drew _) (by simp) ?_ (by simpa using a4) (by unfold maxLen at b0;omega) fun k v hk=>?_⟩
  ·simp only[A9,z6,lG,size_zeroCells,b1,C2,F0];omega
  ·rw[ug] at hk;have b2:=(g5.1 hk).1;rw[r9 (by simpa using b2)];simpa using hk
 have b6:B=none->rows = []/\n=0/\c=0:=by
  rintro rfl;rcases hO with⟨_,h0,A,hA⟩ | ⟨_,_,_,U,_⟩
  ·injection hA with _ e1 e2;exact⟨h0,e1,e2⟩
  ·cases U
 rcases Lx hO with⟨rfl,rfl,A,hA⟩ | ⟨b,cap,arr,rfl,hA,hle,h63,hh,hs,hc⟩
 ·injection hA with e0 e1 e2
  subst e0 e1 e2;obtain⟨_,q2,q3⟩:=a6 0;refine⟨_,_,some w.heap.size,fun Y=>?_,q2,q3,fun b U=>.inr (by injection U with U;omega)⟩;cases base with
  | none =>have:=run_append_nil (P:=f4) w 26 Y 3 i0 HI.zi Tryz.underlying26 a1 a5 ⟨Z,J,none⟩ 1 vc (bz [r]) a0 O (by omega) (by omega) (by rw[a3];omega);rw[this];simp[bz]
  | some a =>have:=run_append_grow (P:=f4) w 26 Y 3 i0 HI.zi Tryz.underlying26 a1 a5 a 0 0 [] (by simp) (fun j v hj=>by simp at hj) ⟨Z,J,none⟩ 1 vc (bz [r]) a0 O (by omega) (by omega) (by rw[a3];exact growslice_fits (by omega) (by omega));rw[this];rfl
 ·injection hA with e0 e1 e2
  subst e0 e1 e2;by_cases a2:rows.length+1<=c
  ·have a8:rows.length*i0.size+(bz [r]).length<=arr.size:=by rw[V,hs];show _+1<=_;omega
   have b5:(bz [r]).length=1:=rfl;have b4:(bz rows).length=rows.length:=lG rows;refine⟨_,_,some b,fun Y=>run_append_room (P:=f4) w 26 Y 3 i0 Tryz.underlying26 a1 b rows.length c arr hh ⟨Z,J,none⟩ 1 vc (bz [r]) a0 O (pj _) a2 a8,⟨rfl,rfl,rfl,by simp,fun k _ hk=>setRow_other w b k _ (fun e=>hk (by rw[e]))⟩,?_,fun b U=>.inl U⟩;refine JV (setRow_heap w b arr _ _ _ hh) (by simp) ?_ (by simpa using a2) h63 fun k v hk=>?_
   ·simp only[z6,i5,s9,t5,E6,b5,V];omega
   ·rw[ug,w9] at hk;rw[F3,z7,w9,V,I2];have b3:(arr.toList.take (rows.length)).length=rows.length:=by have e0:arr.toList.length=arr.size:=E6;rw[s9,e0,hs];omega
    rw[b3];rw[b4] at hk
    split at hk
    ·rename_i a7;rw[j8 a7,s7,j8 a7,M2];exact hc k v (by exact hk)
    ·rename_i a4;rw[i7 a4,v9 (g5.1 hk).1];exact hk
  ·obtain⟨_,q2,q3⟩:=a6 c;refine⟨_,_,some w.heap.size,fun Y=>?_,q2,q3,fun b U=>.inr (by injection U with U;omega)⟩;exact run_append_grow (P:=f4) w 26 Y 3 i0 HI.zi Tryz.underlying26 a1 a5 ⟨b,0,none⟩ rows.length c (bz rows) (by rw[lG,V,I2]) (fun j v hj=>by rw[z8,i9,dx hh];exact hc j v hj) ⟨Z,J,none⟩ 1 vc (bz [r]) a0 O (by omega) (by omega) (by rw[a3];exact growslice_fits (by omega) (by omega))
theorem Li(rows:List b8)(i:Nat)(r:b8)(hi:i<=rows.length){k:Nat}{v:Value}(hk:(bz (dt rows i r))[k]?=some v) :
  (k<i/\(bz rows)[k]?=some v)\/(i<=k/\k<(i+1)/\(bz [r])[k - i]?=some v)\/((i+1)<=k/\((bz rows).drop (i))[k - (i+1)]?=some v):=by
 have U:((bz rows).take (i)).length=i:=by rw[s9,lG];omega
 unfold dt at hk;rw[ug,UJ,show r::rows.drop i = [r]++rows.drop i from rfl,ug,Wa,w9,U] at hk
 split at hk
 ·rename_i J;rw[s7,j8 J] at hk;exact .inl ⟨J,hk⟩
 ·rename_i V;rw[w9] at hk
  split at hk
  ·rename_i J;have J:k - i<1:=J;exact .inr (.inl ⟨by omega,by omega,hk⟩)
  ·rename_i O;have O:¬k - i<1:=O;refine .inr (.inr ⟨by omega,?_⟩);rw[show k - (i+1)=k - i - (bz [r]).length from by show _=_ - 1;omega];exact hk
theorem ajY{w:World}{x:D}{u:Value}{B:Option Nat}(hO:dg w 3 [.int .i64] x.rows u B)(r0:b8)(i V vc:Nat)(a5:Array Value)(vE:TypeId)(h1:(x:Int)<=1000000)(h3:(i:Int)<=(x:Int))
  (a7:w.heap[V]?=some (.cells a5 vE (0,0))) (g3:a5[0]?=some (.int .i64 (r0 0).int)) (hB:B≠some V) :
  Calls f4 195 #[u,.int .i64 (i:Int),.slice (some ⟨V,0,none⟩) 1 vc] w fun ex w'=>∃v' B',ex=.returned v'/\aI w w' B/\dg w' 3 [.int .i64] (dt x.rows i r0) v' B'/\∀b,B'=some b->B=some b\/w.heap.size<=b:=by
 have b6:∀(k:Nat) v,(bz [r0])[k]?=some v->w.cell? ⟨V,0+k,none⟩=some v:=fun k v hk=>by
  have c9:=(g5.1 hk).1;have c9:k<1:=c9;obtain rfl:k=0:=by omega
  rw[dx a7,<- hk];exact g3
 by_cases b0:i=x.rows.length
 ·have f0:dt x.rows i r0=x.rows ++ [r0]:=by unfold dt;rw[b0];simp
  rw[f0];have c6:∃base c,u=.slice base x.rows.length c/\x.rows.length<=c/\c<=9223372036854775807/\(base=none->c=0):=by
   rcases Lx hO with⟨_,h0,A,rfl⟩ | ⟨b,cap,arr,rfl,rfl,Z,O,_⟩
   ·exact⟨A,0,by rw[h0];rfl,by rw[h0];simp,by omega,fun _=>rfl⟩
   ·exact⟨_,cap,rfl,Z,O,fun h=>by cases h⟩
  obtain⟨base,c,rfl,Z,O,h2⟩:=c6;obtain⟨v',w1,B',k1,k2,k3,k4⟩:=aeZ hO V 0 vc (by omega) b6;rw[b0];refine (HI.ins_end base x.rows.length c V 0 vc w w1 v' Z O h2 k1).mono ?_;rintro ex w' ⟨rfl,rfl⟩;exact⟨_,B',rfl,k2,k3,k4⟩
 ·have Y:i<x.rows.length:=by omega
  rcases Lx hO with⟨_,h0,_⟩ | ⟨b,cap,arr,rfl,rfl,Z,O,hh,hs,hc⟩
  ·rw[h0] at Y;simp at Y
  ·have f2:V≠b:=by rintro rfl;exact hB rfl
   obtain⟨n,hn⟩:∃n,n=x.rows.length:=⟨_,rfl⟩;rw[<- hn] at Z Y ⊢;have a8:(bz x.rows).length=n:=by rw[lG,hn]
   have e6:∀(j:Nat) v,(bz x.rows)[j]?=some v->w.cell? ⟨b,0+j,none⟩=some v:=fun j v hj=>by rw[i9,dx hh];exact hc j v hj
   have e7:(dt x.rows i r0).length=n+1:=by simp[dt];omega
   have e9:((bz x.rows).drop (i)).length=(n - i):=by rw[t5,a8]
   have c0:(bz [r0]).length=1:=rfl;by_cases c7:n+1<=cap
   ·have:=HI.ins_shift b 0 n cap i (i+1) V 0 vc (bz x.rows) (bz [r0]) w rfl Y c7 O f2 a8 rfl e6
     (fun j hj=>by rw[i9,dx hh,n3 (by omega)];rfl) (fun j _=>gL hh _) b6 (pj _) (pj _) vE 3 a5.size arr.size (by simp[World.shape?,a7]) (by simp[World.shape?,hh]) (by omega) (gL a7 _) (gL a7 _)
    refine this.mono ?_;rintro ex w' ⟨rfl,rfl⟩;obtain⟨a6,a1,a2,a3,a4⟩:=bA b 3 (0,0) ((bz x.rows).drop (i)) (0+(i+1)) w.drew arr hh (by rw[e9,hs];omega);obtain⟨f1,b1,b2,b3,b4⟩:=bA b 3 (0,0) (bz [r0]) (0+i) _ a6 a1 (by rw[c0,a2,hs];omega);obtain⟨c1,c2,c3,c4,c5⟩:=bu b ((bz x.rows).drop (i)) (0+(i+1)) w.drew;obtain⟨d1,d2,d3,d4,d5⟩:=bu b (bz [r0]) (0+i) (w.drew.setCells b (0+(i+1)) ((bz x.rows).drop (i)));refine⟨_,some b,rfl,⟨d1.trans c1,d2.trans c2,d3.trans c3,C5 (d4.trans c4).symm,fun k _ hk=>(d5 k (fun e=>hk (by rw[e]))).trans (c5 k (fun e=>hk (by rw[e])))⟩,?_,fun b hb=>.inl hb⟩;refine JV b1 e7.symm (by rw[b2,a2,hs]) (by omega) O fun k v hk=>?_
    rcases Li x.rows i r0 (by omega) hk with⟨q1,U⟩ | ⟨q1,U,q3⟩ | ⟨q1,U⟩
    ·rw[b3 k (.inl (by omega)),a3 k (.inl (by omega))];exact hc k v U
    ·have:=b4 _ v q3
     rwa [show 0+i+(k - i)=k from by omega] at this
    ·rw[b3 k (.inr (by rw[c0];omega))];have:=a4 _ v U
     rwa [show 0+(i+1)+(k - (i+1))=k from by omega] at this
   ·obtain rfl:cap=n:=by omega
    have:=HI.ins_grow b 0 cap i (i+1) V 0 vc (bz x.rows) (bz [r0]) w rfl Y (by omega) a8 rfl e6 b6 (pj _) (pj _);refine this.mono ?_;rintro ex w' ⟨rfl,rfl⟩;have g1:=grownCap_ge w (cap+1) cap 3;have c8:=grownCap_le_maxLen w (cap+1) cap 3 (by unfold maxLen;omega);obtain⟨G,hG⟩:∃G,G=grownCap w (cap+1) cap 3:=⟨_,rfl⟩;rw[<- hG] at g1 c8 ⊢;have f3:HI.zi.cells.size=1:=rfl;obtain⟨J,a0⟩:∃J:Array Value,J=((bz x.rows).take (i)).toArray++Builtin.zeroCells HI.zi.cells (cap+1 - i)++Builtin.zeroCells HI.zi.cells (G - (cap+1)):=⟨_,rfl⟩;have e0:((bz x.rows).take (i)).length=i:=by rw[s9,a8];omega
    have b5:J.size=G:=by rw[a0];simp only[A9,z6,e0,size_zeroCells,f3];omega
    have g2:∀(k:Nat) v,k<i->(bz x.rows)[k]?=some v->J[k]?=some v:=fun k v hk hv=>by rw[a0,J2,r9 (by simp only[z6,e0];exact hk)];simp[s7,hk,hv]
    rw[<- a0];have hW:((w.alloc (.cells J 3)).drew).heap[w.heap.size]?=some (.cells J 3 (0,0)):=by letI:Low:=yO;exact fw w _
    obtain⟨a6,a1,a2,a3,a4⟩:=bA w.heap.size 3 (0,0) (bz [r0]) (i) _ J hW (by rw[c0,b5];omega);obtain⟨f1,b1,b2,b3,b4⟩:=bA w.heap.size 3 (0,0) ((bz x.rows).drop (i)) ((i+1)) ((((w.alloc (.cells J 3)).drew).setCells w.heap.size (i) (bz [r0])).drew) a6 a1 (by rw[e9,a2,b5];omega);obtain⟨c1,c2,c3,c4,c5⟩:=bu w.heap.size (bz [r0]) (i) ((w.alloc (.cells J 3)).drew);obtain⟨d1,d2,d3,d4,d5⟩:=bu w.heap.size ((bz x.rows).drop (i)) ((i+1)) ((((w.alloc (.cells J 3)).drew).setCells w.heap.size (i) (bz [r0])).drew);refine⟨_,some w.heap.size,rfl,⟨d1.trans c1,d2.trans c2,d3.trans c3,?_,fun k hk _=>(d5 k (by omega)).trans ((c5 k (by omega)).trans (Below.heap_alloc w _ k hk))⟩,?_,fun b hb=>.inr (by injection hb with hb;omega)⟩
    ·refine o8 ?_ (C5 (d4.trans c4).symm);show w.heap.size<=(w.heap.push _).size;rw[Array.size_push];omega
    ·refine JV b1 e7.symm (by rw[b2,a2,b5]) (by omega) (by unfold maxLen at c8;omega) fun k v hk=>?_
     rcases Li x.rows i r0 (by omega) hk with⟨q1,U⟩ | ⟨q1,U,q3⟩ | ⟨q1,U⟩
     ·rw[b3 k (.inl (by omega)),a3 k (.inl (by omega))];exact g2 k v q1 U
     ·rw[b3 k (.inl (by omega))];have:=a4 _ v q3
      rwa [show i+(k - i)=k from by omega] at this
     ·have:=b4 _ v U
      rwa [show (i+1)+(k - (i+1))=k from by omega] at this
end Go.Proofs.YtpdfmcmnjikppaaGreat
end
