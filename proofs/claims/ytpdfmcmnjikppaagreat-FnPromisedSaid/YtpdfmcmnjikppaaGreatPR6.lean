/-
 Texts of the proof,put together: part 6.
-/
import Derived.Test.YtpdfmcmnjikppaaGreatPR1
import Derived.Test.YtpdfmcmnjikppaaGreatPR2
import Derived.Test.YtpdfmcmnjikppaaGreatPR3
import Derived.Test.YtpdfmcmnjikppaaGreatPR4
import Derived.Test.YtpdfmcmnjikppaaGreatPR5
import Derived.Lib.SlicesCompact
import Derived.Lib.RowBridge
set_option linter.unusedSimpArgs false
set_option linter.unusedVariables false
set_option linter.unusedSectionVars false
noncomputable section
namespace Go.Proofs.YtpdfmcmnjikppaaGreat
abbrev t9:=@List.getElem_of_mem
abbrev C9:=@List.take_of_length_le
abbrev I0:=@bne_self_eq_false
abbrev I7:=@Nat.mul_one
abbrev J3:=@List.getElem_map
abbrev K1:=@List.nodup_append
abbrev K2:=@List.mem_of_mem_take
abbrev L3:=@List.getElem_range
abbrev L4:=@Nat.add_sub_cancel
abbrev M4:=@List.getElem_take
abbrev M5:=@List.getElem_drop
abbrev N0:=@List.length_filter_le
abbrev N3:=@List.range'_succ
end Go.Proofs.YtpdfmcmnjikppaaGreat
namespace Go.Proofs.YtpdfmcmnjikppaaGreat
open Go.RowKit (Below)
def an(z:D):List Int:=z.rows.map fun r=>(gd r 0).int
def ML(xs:List Int):D:=.l (xs.map fun n => [.i n])
def SM(xs:List Int):List Int:=xs.mergeSort fun x y=>decide (x<=y)
def fO(z:D):D:=ML (SM (an z))
def pw(z:D):D:=ML (Lib.compact (an z))
theorem cr(z:D):(an z).length=z.rows.length:=by simp[an]
theorem Ny(xs:List Int):(ML xs).rows=xs.map fun n => [.i n]:=rfl
theorem lc(xs:List Int):(ML xs).rows.length=xs.length:=by simp[ML,D.rows]
theorem Ym(xs:List Int)(i:Nat)(h:i<xs.length):(gd ((ML xs).rows.getD i []) 0).int=xs[i]:=by rw[Ny,g4,w9,g9 h];rfl
theorem dC(z:D)(i:Nat)(h:i<z.rows.length):(an z)[i]?=some (gd (z.rows.getD i []) 0).int:=by simp[an,g4,g9 h]
theorem VN(xs:List Int):an (ML xs)=xs:=by
 unfold an;rw[Ny,D6];have:((fun r=>(gd r 0).int) ∘ fun n:Int => [D.i n])=id:=by funext n;rfl
 rw[this,List.map_id]
theorem zG(xs:List Int):(SM xs).length=xs.length:=List.length_mergeSort xs
theorem abJ(xs:List Int):(Lib.compact xs).length<=xs.length:=by unfold Lib.compact Lib.compactUpTo;rw[r9];exact m8 (N0 _ _) (by simp)
theorem XF{w:World}{b n:Nat}{y:Array Value}{e:TypeId}{d:Array Int}{os:Array Obj}{rows:List b8}(V:w.heap[b]?=some (.cells y e (0,0)))(hd:d.size<=y.size)
  (Z:∀i,i<rows.length->i<d.size/\d[i]! = (gd (rows.getD i []) 0).int):alF b e y rows w (Go.Sort.grow (Go.Sort.putRow (Value.int .i64) (Go.Sort.ahead w n) b 0 d) os):=by
 have Y:=aP V;have h1:(Go.Sort.grow (Go.Sort.putRow (Value.int .i64) (Go.Sort.ahead w n) b 0 d) os).heap=w.heap.modify b (Go.Sort.onCells (Go.Sort.putCells (Value.int .i64) 0 d))++os:=rfl;have O:∀k,k<w.heap.size->(Go.Sort.grow (Go.Sort.putRow (Value.int .i64) (Go.Sort.ahead w n) b 0 d) os).heap[k]?=if b=k then (w.heap[k]?).map (Go.Sort.onCells (Go.Sort.putCells (Value.int .i64) 0 d)) else w.heap[k]?:=fun k hk=>by rw[h1,v5 (by simpa using hk),M8]
 refine⟨⟨rfl,rfl,rfl,by rw[h1];simp,fun k hk=>by omega⟩,fun k hk M=>by rw[O k hk,j7 (Ne.symm M)],Go.Sort.putCells (Value.int .i64) 0 d y,?_,?_,?_⟩
 ·rw[O b Y,m6 rfl,V];rfl
 ·simp[Go.Sort.putCells]
 ·intro i hi;obtain⟨U,W⟩:=Z i hi;have J:i<y.size:=by omega
  unfold Go.Sort.putCells;rw[Array.getElem?_mapIdx,n8 J];rw[getElem!_pos d i U] at W;simp only[<- W];simp[U]
theorem MX{w:World}{b:Nat}{y:Array Value}{e:TypeId}{x:D}(M:w.heap[b]?=some (.cells y e (0,0)))(O:x.rows.length<=y.size)(hc:∀i,i<x.rows.length->y[i]?=some (.int .i64 (gd (x.rows.getD i []) 0).int)) :
  Go.Sort.Holds (Value.int .i64) w b 0 (an x).toArray:=by
 intro j J;have J:j<x.rows.length:=by simpa [an] using J
 refine⟨?_,?_⟩
 ·have e1:(an x).toArray[j]! = (gd (x.rows.getD j []) 0).int:=by have:=dC x j J;simp[getElem!_def,this]
  rw[e1];simp only[World.cell?,M,m0];exact hc j J
 ·simp[World.frozen?,M]
def abN:Ent:=(161,e1 (sd (.sl 3)) fun p=>(⟨.tup [.c .any],[fO (gd p 0)]⟩,leI ((gd p 0).rows.length:Int) 1000000000))
theorem adS:ay f8 abN:=cK fun p h=>by
 have h:leI ((gd p 0).rows.length:Int) 1000000000=true:=h;simp only[leI,g5] at h;refine aJ.ofW rfl ⟨cB Tryz.func161 (by kernel_rfl) (by kernel_rfl),fun e x J Z=>?_⟩;injection J with J _
 injection J with J hp
 injection J with J
 injection J with J
 injection J with J
 injection J with J
 subst J;subst hp;have Y:gd [x] 0=x:=rfl;rw[Y] at h;refine⟨fun W=>⟨?_,fun A w=>?_⟩,fun w b cap a0 M a2 a1 hc O=>⟨?_,fun _=>?_,?_⟩⟩
 ·show (fO x).rows = [];have:an x = []:=by unfold an;rw[W];rfl
  exact v7 (by rw[fO,lc,zG,this];rfl)
 ·refine (Any.slices_Sort_int_none Tryz.lays189 A 0 w).mono ?_;rintro ex w' ⟨rfl,rfl⟩;exact⟨rfl,Below.refl _ _⟩
 ·show (fO x).rows.length<=_;rw[fO,lc,zG,cr];exact i8 _
 ·show (fO x).rows.length=_;rw[fO,lc,zG,cr]
 ·have hl:=cr x;have U:=Any.slices_Sort_int Tryz.lays189 b 0 cap (an x) w (MX M (by omega) O) (aP M) (by omega);rw[hl] at U;refine U.mono ?_;rintro ex w' ⟨rfl,n,os,rfl⟩;refine⟨rfl,XF M (by simp[hl];omega) fun i hi=>?_⟩;have hi:i<(SM (an x)).length:=by
   have hi:i<(fO x).rows.length:=hi
   rwa [fO,lc] at hi
  refine⟨by simpa [SM] using hi,?_⟩;show _=(gd ((fO x).rows.getD i []) 0).int;rw[fO,Ym _ _ hi];have V:i<((an x).mergeSort fun x y=>decide (x<=y)).length:=hi;simp[getElem!_def,g9 V,SM]
def abu:Ent:=(162,e1 (sd (.sl 3)) fun p=>(⟨.tup [.agg []],[pw (gd p 0)]⟩,leI ((gd p 0).rows.length:Int) 1000000000))
theorem aeI:ay f8 abu:=cK fun p h=>by
 have h:leI ((gd p 0).rows.length:Int) 1000000000=true:=h;simp only[leI,g5] at h;refine aJ.ofW rfl ⟨cB Tryz.func162 (by kernel_rfl) (by kernel_rfl),fun e x y Z=>?_⟩;injection y with y _
 injection y with y hp
 injection y with y
 injection y with y
 injection y with y
 injection y with y
 subst y;subst hp;have W:gd [x] 0=x:=rfl;rw[W] at h;have J:∀x:D,(pw x).rows.length=(Lib.compact (an x)).length:=fun x=>lc _
 refine⟨fun V=>⟨?_,fun A w=>?_⟩,fun w b cap a0 O a2 a1 hc M=>⟨?_,?_,?_⟩⟩
 ·show (pw x).rows = [];have:an x = []:=by unfold an;rw[V];rfl
  unfold pw;rw[this];rfl
 ·refine (Any.slices_Compact_int_empty Tryz.laysNm220 A 0 w).mono ?_;rintro ex w' ⟨rfl,rfl⟩;exact⟨rfl,Below.refl _ _⟩
 ·show (pw x).rows.length<=_;rw[J,<- cr];exact abJ _
 ·rintro⟨c,hc⟩;cases hc
 ·have hl:=cr x;have Y:=abJ (an x);have U:=Any.slices_Compact_int Tryz.laysNm220 b 0 cap (an x) w (MX O (by omega) M) (by omega) (by omega);rw[hl] at U;refine U.mono ?_;rintro ex w' ⟨rfl,n,rfl⟩;refine⟨?_,?_⟩
  ·show _=Ending.returned (.slice (some ⟨b,0,none⟩) (pw x).rows.length cap);rw[J]
  ·have:=XF (os:= #[]) (n:=n) (rows:=(pw x).rows) (d:=(Lib.compact (an x)++List.replicate (x.rows.length - (Lib.compact (an x)).length) 0).toArray) O (by simp;omega) fun i hi=>?_
   ·rw[Go.Sort.grow_empty] at this;exact this
   ·rw[J] at hi;refine⟨by simp;omega,?_⟩;rw[pw,Ym _ _ hi];simp[getElem!_def,z9 hi,g9 hi]
theorem Lx{P:Program}{prot:Nat->Nat}{w w':World}{e:TypeId}{x:D}{v:Value}(O:br P e=some [.int .i64])(y:∀b,w.heap.size<=b->prot b=0)(U:Below w.heap.size w w')(V:w'.ownsRow w.heap.size e 1 v x.rows.length ((an x).map (Value.int .i64))) :
  ∃g',Res P prot w w' ⟨.one (.c (.own (0,0) true e)),[x]⟩ v g':=by
 obtain⟨hl,⟨rfl,W⟩ | ⟨blk,cap,cur,rfl,hblk,hh,hcap,hmax,hsz,htk⟩⟩:=V
 ·exact⟨g0 0 prot,U,⟨[.int .i64],O,.inl ⟨v7 W,rfl,none,rfl⟩⟩,fun _ _=>rfl,fun b M=>⟨y b (m8 U.size M),rfl⟩⟩
 ·refine⟨⟨prot,fun b=>if b=blk then some (.inr (0,0)) else none,fun _=>0,fun _=>blk,fun _=>x.rows.length,fun _=>1,fun _=>e,fun _ => [],fun _=>0,fun _=>False⟩,U,⟨[.int .i64],O,.inr ⟨cap,cur,e,rfl,hcap,⟨by unfold maxLen at hmax;omega,rfl,rfl⟩,hblk,m6 rfl,hh,by simpa using hsz,rfl,rfl,?_,?_⟩⟩,fun _ _=>rfl,fun b M=>⟨y b (m8 U.size M),?_⟩⟩
  ·show prot blk=0;exact y blk hblk
  ·intro i j s hi J;have hi:i<x.rows.length:=hi
   match j,J with
   | 0,J =>
    injection J with J
    subst J;refine⟨.int .i64 (gd (x.rows.getD i []) 0).int,?_,.of_vd (.int .i64 _) (.inr rfl)⟩;have e1:(cur.toList.take (x.rows.length*1))[i]?=some (Value.int .i64 (gd (x.rows.getD i []) 0).int):=by rw[htk,w9,dC x i hi];rfl
    rw[u9,m6 (by omega)] at e1;simpa using e1
  ·have:=aP hh;exact j7 (by omega)
def Lq:Ent:=(163,e1 (sd (.sl 3)) fun p=>(⟨.one (.c (.own (0,0) true 3)),[.l (gd p 0).rows]⟩,leI ((gd p 0).rows.length:Int) 1000000000))
theorem Ih:ay f8 Lq:=cK fun p h=>by
 have h:leI ((gd p 0).rows.length:Int) 1000000000=true:=h;simp only[leI,g5] at h;have M:br f8 3=some [.int .i64]:=by kernel_rfl
 refine aJ.of rfl ⟨cB Tryz.func163 (by kernel_rfl) (by kernel_rfl),fun w prot vs V Y=>?_⟩;obtain⟨u,hu,hv⟩:=V.2 0 _ rfl;have a1:vs = #[u]:=by
  have hs:vs.size=1:=V.1;refine Array.ext (by simpa using hs) fun i h1 h2=>?_
  have:i=0:=by omega
  subst this;rw[n8 h1] at hu;injection hu
 subst a1;have hv:VD f8 w prot (.sl 3) (gd p 0) u:=hv;generalize gd p 0=x at *;cases hv with
 | sl e d A c row uu hr h1 h2 h3 h4 =>
  rw[M] at hr;injection hr with hr
  subst hr;cases A with
  | none =>
   have W:x.rows.length=0:=by
    rcases E0 x.rows.length with h' | h'
    ·exact h'
    ·obtain⟨b,o,O,_⟩:=h3 0 0 h' (by decide);cases O
   have a0:x.rows = []:=v7 W;refine (Any.slices_Clone_int_nil Tryz.laysNm215 x.rows.length c w).mono ?_;rintro ex w' ⟨rfl,rfl⟩;obtain⟨g',y⟩:=Lx (x:=x) (prot:=prot) (w:=w') (w':=w') M Y (Below.refl _ _) (v:=.slice none 0 0) ⟨by simp[an],.inl ⟨rfl,W⟩⟩;exact⟨_,g',rfl,y.below,y.val,y.prot,y.fresh⟩
  | some ad =>
   rcases E0 x.rows.length with W | hpos
   ·have a0:x.rows = []:=v7 W;rw[W];refine (Any.slices_Clone_int_zero Tryz.laysNm215 ad c w).mono ?_;rintro ex w' ⟨v',rfl,J,_,U⟩;obtain⟨g',y⟩:=Lx (x:=x) (prot:=prot) M Y U (v:=v') (by
     have e1:an x = []:=by unfold an;rw[a0];rfl
     rw[W,e1];exact J)
    exact⟨_,g',rfl,y.below,y.val,y.prot,y.fresh⟩
   ·obtain⟨b,o,O,_⟩:=h3 0 0 hpos (by decide);injection O with O;subst O;have hl:=cr x;refine (Any.slices_Clone_int Tryz.laysNm215 b o x.rows.length c (an x) w (by omega) (by omega) (fun j Z=>?_)).mono ?_
    ·have Z:j<x.rows.length:=by rw[<- hl];exact Z
     obtain⟨b',o',O,hc,_⟩:=h3 j 0 Z (by decide);simp only[b7,Addr.mk.injEq] at O;obtain⟨rfl,rfl,_⟩:=O;have a2:=h4 j 0 (.int .i64) Z rfl;generalize uu j 0=uv at *;cases a2;have e1:(an x).getD j 0=(gd (x.rows.getD j []) 0).int:=by rw[g4,dC x j Z];rfl
     rw[e1];simpa using hc
    ·rintro ex w' ⟨v',rfl,J,_,U⟩;obtain⟨g',y⟩:=Lx (x:=x) (prot:=prot) M Y U (v:=v') (by rw[C9 (by omega)] at J;exact J);exact⟨_,g',rfl,y.below,y.val,y.prot,y.fresh⟩
def acX:Ent:=(233,e2 (.one (.c (.own (0,0) true 3))) ri fun p q=>(⟨.one (.c (.own (0,0) true 3)),[.l []]⟩,leI 0 (gd q 0).int&&leI (gd q 0).int 1000000000))
theorem afn:ay f8 acX:=bm fun p q h=>by
 have h:(leI 0 (gd q 0).int&&leI (gd q 0).int 1000000000)=true:=h;simp only[a9,leI,g5] at h;have O:br f8 3=some [.int .i64]:=by kernel_rfl
 refine aJ.of rfl ⟨cB Tryz.func233 (by kernel_rfl) (by kernel_rfl),fun w prot vs J U=>?_⟩;obtain⟨u,hu,hv⟩:=J.2 0 _ rfl;obtain⟨u1,V,M⟩:=J.2 1 _ rfl;have a4:vs = #[u,u1]:=by
  have hs:vs.size=2:=J.1;refine Array.ext (by simpa using hs) fun i h1 h2=>?_
  have:i=0\/i=1:=by omega
  rcases this with rfl | rfl
  ·rw[n8 h1] at hu;injection hu
  ·rw[n8 h1] at V;injection V
 subst a4;have M:VD f8 w prot (.int .i64) (gd q 0) u1:=M;obtain⟨row,_,Y⟩:=hv;generalize gd q 0=y at *;cases M;rcases Y with⟨_,_,A,rfl⟩ | ⟨_,_,_,_,_,_,_,ho,_⟩
 ·obtain⟨n,hn⟩:∃n:Nat,y.int=n:=⟨y.int.toNat,by omega⟩;rw[hn];rcases E0 n with rfl | hpos
  ·refine (Any8.slices_Grow_room Tryz.growI A 0 0 0 w (by omega) (by omega) (by omega) (by omega)).mono ?_;rintro ex w' ⟨rfl,rfl⟩;exact⟨_,g0 0 prot,rfl,Below.refl _ _,⟨[.int .i64],O,.inl ⟨rfl,rfl,A,rfl⟩⟩,fun _ _=>rfl,fun b a3=>⟨U b a3,rfl⟩⟩
  ·obtain⟨i0,a5,W,a6,a1⟩:=info_parts (P:=f8) (e:=3) (z:=.int .i64 0) (size:=1) (bytes:=8) (by kernel_rfl);obtain⟨z,hz⟩:∃z,z=Value.int .i64 0:=⟨_,rfl⟩;have a2:z.cells.size=1:=by rw[hz];rfl
   rw[<- hz] at W;refine (Any8.slices_Grow_grow Tryz.growI i0 z a5 W (by omega) A 0 0 n [] w (by omega) (by omega) (by rw[a1];omega) (by omega) (by simp) (fun _=>rfl) (fun a _ j v hj=>by simp at hj)).mono ?_;rintro ex w' ⟨rfl,rfl⟩;have Z:=grownCap_ge w (0+n) 0 3;have a0:=grownCap_le_maxLen w (0+n) 0 3 (by unfold maxLen;omega);obtain⟨g',hg⟩:=Lx (x:=.l []) (prot:=prot) (w:=w) (w':=w.drew.alloc (.cells ((#[]:Array Value)++Builtin.zeroCells z.cells (0+n - 0)++Builtin.zeroCells z.cells (grownCap w (0+n) 0 3 - (0+n))) 3)) O U
    ⟨rfl,rfl,rfl,by simp,fun k hk=>Below.heap_alloc w.drew _ k hk⟩ (v:=.slice (some ⟨w.heap.size,0,none⟩) 0 (grownCap w (0+n) 0 3)) ⟨rfl,.inr ⟨w.heap.size,_,_,rfl,i8 _,(by letI:Low:=Dy;exact gH w.drew _),n5 _,a0,(by simp only[m0] at Z;simp[size_zeroCells,a2];omega),rfl⟩⟩
   exact⟨_,g',rfl,hg⟩
 ·cases ho
theorem afe(ys:List Int)(U:ys.Pairwise (· <= ·)):(∀j,j<ys.length->Lib.keeps ys.toArray j=true)↔ys.Nodup:=by
 have M:∀i j (hi:i<ys.length) (y:j<ys.length),i<=j->ys[i]<=ys[j]:=by
  intro i j hi y h;rcases C4 i j with h | h
  ·exact y6.1 U i j hi y h
  ·have:i=j:=by omega
   subst this;exact J4 _
 have hk:∀j (y:j<ys.length),j≠0->(Lib.keeps ys.toArray j=true↔ys[j]≠ys[j - 1]):=by
  intro j y J;have O:j - 1<ys.length:=by omega
  simp[Lib.keeps,J,getElem!_def,g9 y,g9 O]
 constructor
 ·intro h;refine y6.2 fun i j hi y V=>?_
  have h1:=(hk j y (by omega)).1 (h j y);have W:=M i (j - 1) hi (by omega) (by omega);have Y:=M (j - 1) j (by omega) y (by omega);omega
 ·intro h j y;by_cases J:j=0
  ·subst J;simp[Lib.keeps]
  ·refine (hk j y J).2 ?_;have:=y6.1 h (j - 1) j (by omega) y (by omega);exact fun e=>this e.symm
theorem agV(ys:List Int)(y:ys.Pairwise (· <= ·)):((Lib.compact ys).length=ys.length)↔ys.Nodup:=by rw[<- afe ys y];unfold Lib.compact Lib.compactUpTo;rw[r9];have h:=List.length_filter_eq_length_iff (l:=List.range ys.length) (p:=Lib.keeps ys.toArray);rw[I4] at h;rw[h];simp
theorem ZK(xs:List Int):(SM xs).Pairwise (· <= ·):=by have h:=List.pairwise_mergeSort (le:=fun x y:Int=>decide (x<=y)) (by intro a b c h1 J;simp only[g5] at *;omega) (by intro a b;simp only[B6,g5];omega) xs;exact h.imp fun h=>by simpa using h
theorem aeQ(z:D):(pw (fO z)).rows.length=(fO z).rows.length↔(an z).Nodup:=by unfold pw;rw[lc];unfold fO;rw[VN,lc,agV _ (ZK _)];exact (List.mergeSort_perm (an z) _).nodup_iff
set_option maxRecDepth 4096
set_option maxHeartbeats 1000000
abbrev Ac:=find [acX]
abbrev zE:=[0,2,3,5,6,8,9,10,11,12,20,25,26,27,28]
def vP(N:Nat)(p:b8):b8->Out:=bb f8 Ac N zE Tryz.f157 (.one (.c (.own (0,0) true 3))) [⟨sd (.sl 26),p⟩] 0
def vg(N:Nat)(p:b8):b8->Out:=bb f8 Ac N zE Tryz.f157 (.one (.c (.own (0,0) true 3))) [⟨sd (.sl 26),p⟩] 2
theorem Mi(N:Nat)(p:b8)(O U M J x4 y:D):(vP N p) [O,U,M,J,x4,y] =
 bif ltI y.int x4.int then nd (ah y.int J.rows.length) (bif ltI (w64 (M.int+((gd (J.rows.getD y.int.toNat []) 0).rows.length:Int))) 0 then nd false (nd false (nx [O,U,.i (w64 (M.int+((gd (J.rows.getD y.int.toNat []) 0).rows.length:Int))),J,x4,.i (w64 (y.int+1))]))
 else nx [O,U,.i (w64 (M.int+((gd (J.rows.getD y.int.toNat []) 0).rows.length:Int))),J,x4,.i (w64 (y.int+1))])
 else ex 0 [O,U,M,J,x4,y]:=by kernel_rfl
theorem Od(N:Nat)(p:b8)(O U W V x4 Y x6 J M y:D):(vg N p) [O,U,W,V,x4,Y,x6,J,M,y] =
 bif ltI y.int M.int then nd (ah y.int J.rows.length) (nd (bl (x6.rows++(gd (J.rows.getD y.int.toNat []) 0).rows)&&true) (nx [O,U,W,V,x4,Y,.l (x6.rows++(gd (J.rows.getD y.int.toNat []) 0).rows),J,M,.i (w64 (y.int+1))]))
 else ex 2 [O,U,W,V,x4,Y,x6,J,M,y]:=by kernel_rfl
theorem Wt(N:Nat)(p:b8):bf f8 Ac N zE Tryz.f157 (.one (.c (.own (0,0) true 3))) [⟨sd (.sl 26),p⟩]=some (bo,
 (let y:=aX (vP N p) N [gd p 0,.l [],.i 0,gd p 0,.i ((gd p 0).rows.length:Int),.i 0]
  nd y.isSome (nd (y.code==2) (nd (leI 0 (gd y.pay 2).int&&leI (gd y.pay 2).int 1000000000) ((let J:=aX (vg N p) N [gd y.pay 0,gd y.pay 1,gd y.pay 2,gd y.pay 3,gd y.pay 4,gd y.pay 5,.l [],gd y.pay 0,.i ((gd y.pay 0).rows.length:Int),.i 0]
  nd J.isSome (nd (J.code==4) (some (1,[gd J.pay 6]))))))))):=by kernel_rfl
def DM(x:D):D:=.l ((gd (x.rows.getD 0 []) 0).rows++(gd (x.rows.getD 1 []) 0).rows)
def OB(x:D):Bool:=x.rows.length==2&&(leI ((gd (x.rows.getD 0 []) 0).rows.length:Int) 100000000&&leI ((gd (x.rows.getD 1 []) 0).rows.length:Int) 100000000)
theorem rR{L:b8->Out}{n:Nat}{p q:b8}(h:L p=nx q):aX L (n+1) p=aX L n q:=by show (match L p with | some (0,p')=>aX L n p' | o=>o)=_;rw[h];rfl
theorem lZ{L:b8->Out}{n c:Nat}{p q:b8}(h:L p=some (c+1,q)):aX L (n+1) p=some (c+1,q):=by show (match L p with | some (0,p')=>aX L n p' | o=>o)=_;rw[h];rfl
def RP:Ent:=(157,e1 (sd (.sl 26)) fun p=>(⟨.one (.c (.own (0,0) true 3)),[DM (gd p 0)]⟩,OB (gd p 0)))
theorem YR:ay f8 RP:=cK fun p h=>au (N:=3) (ks:=zE) (al (fC ⟨afn,fN⟩)) Tryz.func157 fun hw=>by
 rw[Wt];have h:OB (gd p 0)=true:=h;unfold OB at h;simp only[a9,leI,g5,u7] at h;obtain⟨hl,h0,h1⟩:=h;have O:∀k,k<(gd p 0).rows.length->((gd ((gd p 0).rows.getD k []) 0).rows.length:Int)<=100000000:=fun k hk=>by
  have:k=0\/k=1:=by omega
  rcases this with rfl | rfl <;> assumption
 have V:∀(k:Nat) (s:Int),k<(gd p 0).rows.length->0<=s->s<=100000000->vP 3 p [gd p 0,.l [],.i s,gd p 0,.i ((gd p 0).rows.length:Int),.i (k:Int)]=nx [gd p 0,.l [],.i (s+((gd ((gd p 0).rows.getD k []) 0).rows.length:Int)),gd p 0,.i ((gd p 0).rows.length:Int),.i ((k+1:Nat):Int)]:=fun k s hk Y Z=>by have:=O k hk;rw[Mi];simp only[aA,di hk,bu hk,g8];rw[bD (by omega) (by omega),iI (by omega),f9,aG hk (by omega)]
 have U:∀(k:Nat) (J y x4 M:D) (rs:List b8),k<(gd p 0).rows.length->rs.length<=100000000->vg 3 p [gd p 0,.l [],J,y,x4,M,.l rs,gd p 0,.i ((gd p 0).rows.length:Int),.i (k:Int)]=nx [gd p 0,.l [],J,y,x4,M,.l (rs++(gd ((gd p 0).rows.getD k []) 0).rows),gd p 0,.i ((gd p 0).rows.length:Int),.i ((k+1:Nat):Int)]:=fun k J y x4 M rs hk a0=>by have:=O k hk;rw[Od];simp only[aA,bd,di hk,bu hk,g8];rw[ci (by rw[i6];omega),aG hk (by omega)];rfl
 have W:aX (vP 3 p) 3 [gd p 0,.l [],.i 0,gd p 0,.i ((gd p 0).rows.length:Int),.i 0]=some (2,[gd p 0,.l [],.i (0+((gd ((gd p 0).rows.getD 0 []) 0).rows.length:Int)+((gd ((gd p 0).rows.getD 1 []) 0).rows.length:Int)),gd p 0,.i ((gd p 0).rows.length:Int),.i ((gd p 0).rows.length:Int)]):=by
  refine Eq.trans (rR (n:=2) (V 0 0 (by omega) (by omega) (by omega))) (Eq.trans (rR (n:=1) (V 1 _ (by omega) (by omega) (by omega))) ?_);have e:((1+1:Nat):Int)=((gd p 0).rows.length:Int):=by omega
  rw[e];refine lZ (c:=1) ?_;rw[Mi];simp only[aA,ca]
 have e2:∀(J y x4 M:D),aX (vg 3 p) 3 [gd p 0,.l [],J,y,x4,M,.l [],gd p 0,.i ((gd p 0).rows.length:Int),.i 0]=some (4,[gd p 0,.l [],J,y,x4,M,.l ([]++(gd ((gd p 0).rows.getD 0 []) 0).rows++(gd ((gd p 0).rows.getD 1 []) 0).rows),gd p 0,.i ((gd p 0).rows.length:Int),.i ((gd p 0).rows.length:Int)]):=fun J y x4 M=>by
  refine Eq.trans (rR (n:=2) (U 0 J y x4 M [] (by omega) (by simp))) (Eq.trans (rR (n:=1) (U 1 J y x4 M _ (by omega) (by have:=O 0 (by omega);rw[F0];omega))) ?_);have e:((1+1:Nat):Int)=((gd p 0).rows.length:Int):=by omega
  rw[e];refine lZ (c:=3) ?_;rw[Od];simp only[aA,ca]
 refine congrArg (fun x=>some (bo,x)) ?_;simp only[W,nd,g6,f9,B1,Out.code,Out.pay,z6,aq,ap,Nat.reduceBEq,Nat.reduceAdd,aA,kK,ye,bd,n4,A4,s9];rw[bi (by omega),bi (by omega)];simp only[e2,nd,g6,f9,B1,Out.code,Out.pay,z6,aq,ap,Nat.reduceBEq,Nat.reduceAdd,aA,kK,ye,bd,n4,A4,s9,u5];rw[F0];rfl
abbrev PS:=find [Mk,JT,qW,ng,LZ,vS,uN,agB,ajd,RP,aiW,qm,abN,Lq,abu,VK]
abbrev PL:=[0,1,2,3,4,55,65,75]
def Yq(N:Nat)(p:b8):Out:=nd (leI ((gd p 3).rows.length:Int) 1000000000&&leI ((gd p 5).rows.length:Int) 1000000000) (ob (leI (iQ (sub p 0 9)) 60))
def Wz(N:Nat)(p:b8):Out:=bif ((pw (.l (fO (.l ((aF (gd p 5)).rows++(DM (.l [[gd p 6],[gd p 7]])).rows))).rows)).rows.length:Int)==((fO (.l ((aF (gd p 5)).rows++(DM (.l [[gd p 6],[gd p 7]])).rows))).rows.length:Int) then (Yq N p) else ob false
def YK(N:Nat)(p:b8):Out:=nd (leI ((fO (.l ((aF (gd p 5)).rows++(DM (.l [[gd p 6],[gd p 7]])).rows))).rows.length:Int) 1000000000) (Wz N p)
def Yi(N:Nat)(p:b8):Out:=nd (leI ((fO (.l ((aF (gd p 5)).rows++(DM (.l [[gd p 6],[gd p 7]])).rows))).rows.length:Int) 1000000000) (YK N p)
def JJ(N:Nat)(p:b8):Out:=nd (leI (((aF (gd p 5)).rows++(DM (.l [[gd p 6],[gd p 7]])).rows).length:Int) 1000000000) (Yi N p)
def WP(N:Nat)(p:b8):Out:=nd (bl ((aF (gd p 5)).rows++(DM (.l [[gd p 6],[gd p 7]])).rows)&&true) (JJ N p)
def Jp(N:Nat)(p:b8):Out:=bif eL (fun y=>sP (.l [[.l [sub p 0 9],.l [[DM (.l [[gd p 6],[gd p 7]])]]]]) (sub y 0 4)) (gd p 4) then ob false else nd (leI ((gd p 5).rows.length:Int) 1000000000) (WP N p)
def Ji(N:Nat)(p:b8):Out:=bif eL (fun y=>sS (.l [[.l [sub p 0 9]]]) (sub y 0 2)) (gd p 3) then ob false else nd (OB (.l [[gd p 6],[gd p 7]])) (Jp N p)
def IA(N:Nat)(p:b8):Out:=bif eL (fun y=>sX (.l [[.l [sub p 0 9]]]) (sub y 0 2)) (gd p 2) then ob false else (Ji N p)
def Ju(N:Nat)(p:b8):Out:=bif !(gF (gd p 7)) then ob false else bif !(inB (gd p 8).int 0 1000000) then ob false else (IA N p)
def Dq(N:Nat)(p:b8):Out:=bif !(nB (sub p 0 9)) then ob false else bif !(gF (gd p 6)) then ob false else (Ju N p)
def Ek(N:Nat)(p:b8):Out:=bif !(aY (gd p 4)) then ob false else nd (leI ((gd p 5).rows.length:Int) 1000000000) (Dq N p)
def ET(N:Nat)(p:b8):Out:=bif !(bB (gd p 2)) then ob false else bif !(aN (gd p 3)) then ob false else (Ek N p)
def uQ(N:Nat)(p:b8):Out:=bif !(inB (gd p 0).int (0) (3)) then ob false else bif !(bB (gd p 1)) then ob false else (ET N p)
theorem TP(N:Nat)(p:b8):bf f8 PS N PL Tryz.f43 rb [⟨ag aR,p⟩]=some (bo,(uQ N p)):=by kernel_rfl
def vAt(z:D)(i:Nat):Int:=(gd (z.rows.getD i []) 0).int
theorem tD(z:D)(i:Nat)(h:i<(an z).length):(an z)[i]=vAt z i:=by
 have y:i<z.rows.length:=by rwa [cr] at h
 have:=dC z i y;rw[g9 h] at this;injection this
theorem fW(z:D)(x:Int):aC z x=true↔x∈an z:=by
 unfold aC eL;simp only[D3,m7,u7];constructor
 ·rintro⟨k,hk,rfl⟩;have y:k<(an z).length:=by rwa [cr]
  exact I5.2 ⟨k,y,tD z k y⟩
 ·intro h;obtain⟨k,hk,rfl⟩:=t9 h;exact⟨k,by rwa [cr] at hk,tD z k hk⟩
theorem ala{z:D}(h:gF z=true):∀i,i<z.rows.length->(i:Int)+1<=vAt z i/\vAt z i<=60/\∀j,j<i->vAt z j<vAt z i:=by
 unfold gF at h;rw[i9] at h;intro i
 induction i with
 | zero =>intro hi;have:=h 0 (m7.2 hi);simp only[mE,inB,a9,g5] at this;refine⟨?_,?_,fun j y=>by omega⟩ <;> unfold vAt <;> omega
 | succ i J =>
  intro hi;obtain⟨h1,O,M⟩:=J (by omega);have:=h (i+1) (m7.2 hi);simp only[mE,inB,leI,a9,g5,o8,B9] at this;unfold vAt at *;refine⟨by omega,by omega,fun j y=>?_⟩;rcases C4 j i with hj' | hj'
  ·have:=M j hj';omega
  ·have:j=i:=by omega
   subst this;omega
theorem adb{z:D}(h:gF z=true):z.rows.length<=60:=by
 rcases E0 z.rows.length with h0 | h0
 ·omega
 ·have:=ala h (z.rows.length - 1) (by omega);omega
theorem GO{z:D}(h:gF z=true):(an z).Nodup:=by
 refine y6.2 fun i j hi J y=>?_
 rw[tD,tD];have:=(ala h j (by rwa [cr] at J)).2.2 i y;omega
def eN(p:b8):D:=.l ((aF (gd p 5)).rows++((gd p 6).rows++(gd p 7).rows))
theorem aah(p:b8):an (eN p)=an (aF (gd p 5))++(an (gd p 6)++an (gd p 7)):=by show List.map _ (_++(_++_))=_;rw[y8,y8];rfl
theorem akT(z:D)(i:Nat):vAt (aF z) i=vAt z i:=by unfold vAt aF;show (gd ((z.rows.map fun r => [gd r 0]).getD i []) 0).int=_;rw[g4,g4,w9];cases z.rows[i]? <;> rfl
theorem Ll(z:D):(aF z).rows.length=z.rows.length:=by simp[aF,D.rows]
def mL(p:b8):Bool:=((List.range (gd p 5).rows.length).all fun k => !aC (gd p 6) (vAt (gd p 5) k) && !aC (gd p 7) (vAt (gd p 5) k))&&((List.range (gd p 6).rows.length).all fun k => !aC (gd p 7) (vAt (gd p 6) k))
theorem adE(p:b8)(h5:gF (aF (gd p 5))=true)(W:gF (gd p 6)=true)(Z:gF (gd p 7)=true):((pw (fO (eN p))).rows.length==(fO (eN p)).rows.length)=mL p:=by
 rw[y0,u7,aeQ,aah];have e:mL p=true↔(∀k,k<(gd p 5).rows.length->vAt (gd p 5) k ∉ an (gd p 6)/\vAt (gd p 5) k ∉ an (gd p 7))/\(∀k,k<(gd p 6).rows.length->vAt (gd p 6) k ∉ an (gd p 7)):=by
  have V:∀z x,(!aC z x)=true↔x ∉ an z:=fun z x=>by rw[<- fW];cases aC z x <;> simp
  unfold mL;simp only[a9,i9,m7,V]
 rw[e,K1,K1];have hm:∀(z:D) (Q:Int->Prop),(∀a∈an z,Q a)↔∀k,k<z.rows.length->Q (vAt z k):=fun z Q=>by
  constructor
  ·intro h k hk;have J:k<(an z).length:=by rwa [cr]
   have:=h _ (v6 J)
   rwa [tD] at this
  ·intro h a Y;obtain⟨k,hk,rfl⟩:=t9 Y;rw[tD];exact h k (by rwa [cr] at hk)
 rw[hm (aF (gd p 5)),hm (gd p 6),Ll];simp only[akT];constructor
 ·rintro⟨_,⟨_,_,U⟩,M⟩;exact⟨fun k hk=>⟨fun h=>M k hk _ (n3.2 (.inl h)) rfl,fun h=>M k hk _ (n3.2 (.inr h)) rfl⟩,fun k hk h=>U k hk _ h rfl⟩
 ·rintro⟨h1,O⟩;refine⟨GO h5,⟨GO W,GO Z,fun k hk b y e=>O k hk (e▸y)⟩,fun k hk b y e=>?_⟩;subst e;rcases n3.1 y with y | y
  ·exact (h1 k hk).1 y
  ·exact (h1 k hk).2 y
theorem yQ{r:b8}(y:0<=(gd r 0).int)(h1:(gd r 0).int<=999):ax (fu r)=true:=by show (decide ((gd r 0).int>=0)&&(decide ((gd r 0).int<w64 ((gd r 0).int+1))&&decide (w64 ((gd r 0).int+1)<=1000)))=true;rw[bD (by omega) (by omega)];simp only[a9,g5];omega
theorem ID{p:b8}{k:Nat}(hz:aY (gd p 4)=true):hJ p k=(Cm p k&&(!aC (gd p 6) (vAt (gd p 5) k) && !aC (gd p 7) (vAt (gd p 5) k))):=by
 unfold hJ Cm vAt;cases hw:aL (gd ((gd p 5).rows.getD k []) 1) with
 | false=>rfl
 | true =>
  rw[y7,y7]
  congr 1
  rw[y0,i9,i9];refine forall_congr' fun j=>forall_congr' fun J=>?_
  unfold aL at hw;simp only[a9,i9] at hw;have y:=hw.2 j J;simp only[lW,inB,a9,g5] at y;rw[zJ hz (yQ (by omega) (by omega))]
def Zp(p:b8):Bool:=inB (gd p 0).int 0 3&&(bB (gd p 1)&&(bB (gd p 2)&&(aN (gd p 3)&&(aY (gd p 4)&&(nB p&&(gF (gd p 6)&&(gF (gd p 7)&&(inB (gd p 8).int 0 1000000&&(cW p 2 0 pG&&(cW p 3 2 lm&&(cW p 4 4 iT&&(mL p&&leI (iQ p) 60))))))))))))
theorem Ok{p:b8}(hz:aY (gd p 4)=true):gx p=true↔nB p=true/\∀k,k<(gd p 5).rows.length->(!aC (gd p 6) (vAt (gd p 5) k) && !aC (gd p 7) (vAt (gd p 5) k))=true:=by
 unfold gx nB gF;rw[Ll];simp only[a9,i9,m7];have J:∀k,fK p k=true↔(Cm p k=true/\mE (aF (gd p 5)) k=true)/\(!aC (gd p 6) (vAt (gd p 5) k) && !aC (gd p 7) (vAt (gd p 5) k))=true:=by
  intro k;have hv:∀j,(gd ((aF (gd p 5)).rows.getD j []) 0).int=(gd ((gd p 5).rows.getD j []) 0).int:=fun j=>akT (gd p 5) j
  cases k with
  | zero =>
   simp only[fK,mE,ID hz,hv,a9];constructor
   ·rintro⟨a,b,c⟩;exact⟨⟨b,a⟩,c⟩
   ·rintro⟨⟨b,a⟩,c⟩;exact⟨a,b,c⟩
  | succ k =>
   simp only[fK,mE,ID hz,hv,a9];constructor
   ·rintro⟨a,r,b,c⟩;exact⟨⟨b,a,r⟩,c⟩
   ·rintro⟨⟨b,a,r⟩,c⟩;exact⟨a,r,b,c⟩
 simp only[J,a9];constructor
 ·intro h;exact⟨⟨fun k hk=>(h k hk).1.1,fun k hk=>(h k hk).1.2⟩,fun k hk=>(h k hk).2⟩
 ·rintro⟨⟨h1,y⟩,M⟩ k hk;exact⟨⟨h1 k hk,y k hk⟩,M k hk⟩
theorem aap(p:b8):Zp p=aW p:=by
 rw[y0];have hl:∀ {z:D},gF z=true->leI (z.rows.length:Int) 60=true:=fun h=>by have:=adb h;simp only[leI,g5];omega
 have V:nB p=true->leI ((gd p 5).rows.length:Int) 60=true:=fun h=>by
  have h':gF (aF (gd p 5))=true:=by unfold nB at h;simp only[a9] at h;exact h.2
  have:=hl h'
  rwa [Ll] at this
 have h6:cW p 6 6 im=true↔((List.range (gd p 6).rows.length).all fun k => !aC (gd p 7) (vAt (gd p 6) k))=true:=Iff.rfl;have b1:mL p=true↔(∀k,k<(gd p 5).rows.length->(!aC (gd p 6) (vAt (gd p 5) k) && !aC (gd p 7) (vAt (gd p 5) k))=true)/\cW p 6 6 im=true:=by rw[h6];unfold mL;rw[a9,i9];simp only[m7]
 have W:ff p=true↔gx p=true/\leI (iQ p) 60=true:=by unfold ff iQ;rw[a9]
 unfold Zp aW;simp only[a9,b1,W];constructor
 ·rintro⟨a0,a1,a2,Z,y,M,O,J,U,Y,b2,b4,⟨c1,c2⟩,d⟩;exact⟨a0,a1,a2,Z,y,U,V M,hl O,hl J,O,J,Y,b2,b4,c2,(Ok y).2 ⟨M,fun k hk=>by simpa using c1 k hk⟩,d⟩
 ·rintro⟨a0,a1,a2,Z,y,U,_,_,_,O,J,Y,b2,b4,c2,hs,d⟩;obtain⟨M,c1⟩:=(Ok y).1 hs;exact⟨a0,a1,a2,Z,y,M,O,J,U,Y,b2,b4,⟨fun k hk=>by simpa using c1 k hk,c2⟩,d⟩
theorem zZ{z:D}{q:b8}(hz:bB z=true)(y:ax q=true):ge z q=aT z q:=by unfold aT;rw[hz,y];rfl
theorem SF{z:D}{k:Nat}(hz:bB z=true)(hk:k<z.rows.length):ax (sub (z.rows.getD k []) 0 2)=true:=by
 unfold bB at hz;simp only[a9,i9,m7] at hz;have:=hz.1 k hk;cases k with
 | zero=>exact this
 | succ k=>simp only[iA,a9] at this;exact this.1
theorem aeu{z:D}{k:Nat}(hz:aN z=true)(hk:k<z.rows.length):0<=(gd (z.rows.getD k []) 0).int/\(gd (z.rows.getD k []) 0).int<=999:=by
 unfold aN at hz;simp only[a9,i9,m7] at hz;have:=hz.1 k hk;cases k with
 | zero=>simp only[storeAt,inB,a9,g5] at this;omega
 | succ k=>simp only[storeAt,inB,a9,g5] at this;omega
theorem agm{z:D}{k:Nat}(hz:aY z=true)(hk:k<z.rows.length):ax [gd (z.rows.getD k []) 1,gd (z.rows.getD k []) 2]=true:=by unfold aY at hz;simp only[a9,i9,m7] at hz;have:=hz.1 k hk;simp only[ma,a9] at this;exact this.2.1
theorem MZ{C:b8->Bool}{z:D}{A:Nat->Bool}(h:∀k,k<z.rows.length->C (z.rows.getD k []) = !A k):eL C z = !(List.range z.rows.length).all A:=by
 unfold eL;rw[y0];simp only[D3,m7,o8,<- G8,i9];constructor
 ·rintro⟨k,hk,hc⟩ ha;rw[h k hk,ha k hk] at hc;cases hc
 ·intro M;refine Classical.byContradiction fun y=>M fun k hk=>?_
  cases J:A k with
  | true=>rfl
  | false=>exact absurd ⟨k,hk,by rw[h k hk,J];rfl⟩ y
theorem aaG(a b:List b8)(x:Int):aC (.l (a++b)) x=(aC (.l a) x||aC (.l b) x):=by have e:an (.l (a++b))=an (.l a)++an (.l b):=y8;rw[y0,B6,fW,fW,fW,e,n3]
theorem JV(z:D)(x:Int):aC (.l z.rows) x=aC z x:=rfl
theorem akd(p:b8)(h1:bB (gd p 1)=true)(y:bB (gd p 2)=true):eL (fun J=>sX (.l [[.l [sub p 0 9]]]) (sub J 0 2)) (gd p 2) = !(cW p 2 0 pG):=by
 refine MZ fun k hk=>?_
 show (!(ge (gd p 1) (sub ((gd p 2).rows.getD k []) 0 2)))=_;rw[zZ h1 (SF y hk)];rfl
theorem ajC(p:b8)(h1:bB (gd p 1)=true)(y:aN (gd p 3)=true):eL (fun J=>sS (.l [[.l [sub p 0 9]]]) (sub J 0 2)) (gd p 3) = !(cW p 3 2 lm):=by
 refine MZ fun k hk=>?_
 show (!(ge (gd p 1) (fu ((gd p 3).rows.getD k []))))=_;have:=aeu y hk;rw[zZ h1 (yQ this.1 this.2)];rfl
theorem akp(p:b8)(h1:bB (gd p 1)=true)(y:aY (gd p 4)=true):eL (fun J=>sP (.l [[.l [sub p 0 9],.l [[DM (.l [[gd p 6],[gd p 7]])]]]]) (sub J 0 4)) (gd p 4) = !(cW p 4 4 iT):=by
 refine MZ fun k hk=>?_
 show (bif !(ge (gd p 1) [gd ((gd p 4).rows.getD k []) 1,gd ((gd p 4).rows.getD k []) 2]) then true else aC (.l ((gd p 6).rows++(gd p 7).rows)) (gd ((gd p 4).rows.getD k []) 0).int)=_;rw[zZ h1 (agm y hk),aaG,JV,JV];unfold iT;cases aT (gd p 1) [gd ((gd p 4).rows.getD k []) 1,gd ((gd p 4).rows.getD k []) 2] <;> cases aC (gd p 6) (gd ((gd p 4).rows.getD k []) 0).int <;> cases aC (gd p 7) (gd ((gd p 4).rows.getD k []) 0).int <;> rfl
def bG(p:b8):Bool:=leI ((gd p 3).rows.length:Int) 100000000&&(leI ((gd p 5).rows.length:Int) 100000000&&(leI ((gd p 6).rows.length:Int) 100000000&&leI ((gd p 7).rows.length:Int) 100000000))
theorem NB{a c g:Bool}{x:Out}(hc:c = !a)(h:a=true->x=ob g):(bif c then ob false else x)=ob (a&&g):=by subst hc;exact eY h
def wh:Ent:=(43,e1 (ag aR) fun p=>(⟨rb,[.b (aW p)]⟩,bG p))
theorem vX:ay f8 wh:=cK fun p h=>au (N:=0) (ks:=PL) (al (fC ⟨Ur,fC ⟨Qp,fC ⟨pM,fC ⟨lP,fC ⟨TB,fC ⟨xL,fC ⟨qi,fC ⟨aie,fC ⟨ahM,fC ⟨YR,fC ⟨agy,fC ⟨np,fC ⟨adS,fC ⟨Ih,fC ⟨aeI,fC ⟨SN,fN⟩⟩⟩⟩⟩⟩⟩⟩⟩⟩⟩⟩⟩⟩⟩⟩)) Tryz.func43 fun hw=>by
 rw[TP];have h:bG p=true:=h;unfold bG at h;simp only[a9,leI,g5] at h;obtain⟨h3,h5,h6,h7⟩:=h;refine congrArg (fun x=>some (bo,x)) ?_;show uQ 0 p=ob (aW p);have J:leI ((gd p 5).rows.length:Int) 1000000000=true:=bi (by omega);have W:(eN p).rows.length=(gd p 5).rows.length+((gd p 6).rows.length+(gd p 7).rows.length):=by show ((aF (gd p 5)).rows++((gd p 6).rows++(gd p 7).rows)).length=_;rw[i6,i6,Ll]
 have y:(fO (eN p)).rows.length=(eN p).rows.length:=by rw[fO,lc,zG,cr]
 rw[<- aap];unfold uQ ET Zp;refine eY fun _=>eY fun M=>eY fun a2=>eY fun a3=>?_
 unfold Ek;refine eY fun V=>?_
 rw[J,aU];unfold Dq;refine eY (a:=nB p) fun O=>eY fun Z=>?_
 unfold Ju;refine eY fun Y=>eY fun _=>?_
 unfold IA;refine NB (akd p M a2) fun _=>?_
 unfold Ji;refine NB (ajC p M a3) fun _=>?_
 have U:OB (.l [[gd p 6],[gd p 7]])=true:=by show (true&&(leI ((gd p 6).rows.length:Int) 100000000&&leI ((gd p 7).rows.length:Int) 100000000))=true;rw[bi (by omega),bi (by omega)];rfl
 rw[U,aU];unfold Jp;refine NB (akp p M V) fun _=>?_
 rw[J,aU];unfold nB at O;simp only[a9] at O;show nd (bl (eN p).rows&&true) (JJ 0 p)=_;rw[ci (by omega)];show nd (leI ((eN p).rows.length:Int) 1000000000) (nd (leI ((fO (eN p)).rows.length:Int) 1000000000) (nd (leI ((fO (eN p)).rows.length:Int) 1000000000) (bif ((pw (fO (eN p))).rows.length:Int)==((fO (eN p)).rows.length:Int) then (nd (leI ((gd p 3).rows.length:Int) 1000000000&&leI ((gd p 5).rows.length:Int) 1000000000) (ob (leI (iQ p) 60))) else ob false)))=_;rw[y,bi (by omega),aU,aU,aU,bi (by omega),J,u5,aU,<- y];have e:=adE p O.2 Z Y;rw[<- e];have e':(((pw (fO (eN p))).rows.length:Int)==((fO (eN p)).rows.length:Int))=((pw (fO (eN p))).rows.length==(fO (eN p)).rows.length):=by rw[y0,u7,u7];omega
 rw[e'];cases (pw (fO (eN p))).rows.length==(fO (eN p)).rows.length <;> rfl
abbrev EK:=find [On]
abbrev Eu:=[0,1,2,3]
theorem MU(N:Nat)(p q:b8):bf f8 EK N Eu Tryz.f222 rb [⟨ag aI,p⟩,⟨.one (.c (.cptr [si,si] 0)),q⟩]=some (bo,
 ob (eJ (sub ((gd q 0).rows.getD 0 []) 0 2) (sub p 0 2))):=by kernel_rfl
def pU(p q:b8):Bool:=
 eJ (sub ((gd q 0).rows.getD 0 []) 0 2) (sub p 0 2)
def vx:Ent:=(222,e2 (ag aI) (.one (.c (.cptr [si,si] 0))) fun p q=>(⟨rb,[.b (pU p [gd q 0])]⟩,true))
theorem yx:ay f8 vx:=bm fun p q h=>au (N:=0) (ks:=Eu) (al (fC ⟨OI,fN⟩)) Tryz.func222 fun hw=>by
 rw[MU]
 try simp only[er,ez,eo]
 rfl
abbrev ZQ:=find [vx]
abbrev YY:=[0,1,4,5,7,8,9,16]
def EC(N:Nat)(p q:b8):b8->Out:=bb f8 ZQ N YY Tryz.f207 ri [⟨sd (.sl 41),p⟩,⟨.one (.c (.fn 222 [.cptr [si,si] 0])),q⟩] 0
theorem acD(N:Nat)(p q:b8)(y J O M x4:D):(EC N p q) [y,J,O,M,x4] =
 bif ltI x4.int M.int then nd (ah x4.int y.rows.length) (bif pU (sub (y.rows.getD x4.int.toNat []) 0 2) [gd (J.rows.getD 0 []) 0] then some (1,[x4])
 else nx [y,J,O,M,.i (w64 (x4.int+1))])
 else ex 0 [y,J,O,M,x4]:=by kernel_rfl
theorem age(N:Nat)(p q:b8):bf f8 ZQ N YY Tryz.f207 ri [⟨sd (.sl 41),p⟩,⟨.one (.c (.fn 222 [.cptr [si,si] 0])),q⟩]=some (bo,
 (let y:=aX (EC N p q) N [gd p 0,gd q 0,.i 0,.i ((gd p 0).rows.length:Int),.i 0]
  nd y.isSome (bif y.code==1 then some (1,y.pay)
  else nd (y.code==2) (oi (-1))))):=by kernel_rfl
def vn(c:D)(r:b8):Bool:=pU r [gd (c.rows.getD 0 []) 0]
def ahK:Ent:=(207,e2 (sd (.sl 41)) (.one (.c (.fn 222 [.cptr [si,si] 0]))) fun p q=>(⟨ri,[.i (ixF (fun k=>vn (gd q 0) (sub ((gd p 0).rows.getD k []) 0 2)) 0 (gd p 0).rows.length)]⟩,true))
theorem afB:ay f8 ahK:=bm fun p q h=>au (N:=(gd p 0).rows.length+1) (ks:=YY) (al (fC ⟨yx,fN⟩)) Tryz.func207 fun hw=>by
 rw[age];have hl:=fi (hw ⟨sd (.sl 41),p⟩ (by simp));have e:=iq (L:=EC ((gd p 0).rows.length+1) p q) (fun k => [gd p 0,gd q 0,.i 0,.i ((gd p 0).rows.length:Int),.i (k:Int)]) (gd p 0).rows.length (fun k=>vn (gd q 0) (sub ((gd p 0).rows.getD k []) 0 2)) [gd p 0,gd q 0,.i 0,.i ((gd p 0).rows.length:Int),.i ((gd p 0).rows.length:Int)] (fun k hk=>?_) ?_ (gd p 0).rows.length 0 ((gd p 0).rows.length+1) (by omega) (by omega)
 ·simp only[j9] at e;rw[e];have y:=gT (fun k=>vn (gd q 0) (sub ((gd p 0).rows.getD k []) 0 2)) (gd p 0).rows.length 0;cases J:decide (ixF (fun k=>vn (gd q 0) (sub ((gd p 0).rows.getD k []) 0 2)) 0 (gd p 0).rows.length>=0)
  ·rw[y J];rfl
  ·rfl
 ·show EC _ p q [_,_,_,_,.i (k:Int)]=_;rw[acD];simp only[aA,di hk,bu hk,aG hk hl,g8];unfold vn;cases pU (sub ((gd p 0).rows.getD k []) 0 2) [gd ((gd q 0).rows.getD 0 []) 0] <;> rfl
 ·show EC _ p q [_,_,_,.i ((gd p 0).rows.length:Int),.i ((gd p 0).rows.length:Int)]=_;rw[acD];simp only[aA,ca]
abbrev agI:=find [ahK,vx]
abbrev afL:=[0,1,4]
theorem ahl(N:Nat)(p q:b8):bf f8 agI N afL Tryz.f106 rb [⟨sd (.sl 41),p⟩,⟨.one (.c (.fn 222 [.cptr [si,si] 0])),q⟩]=some (bo,
 ob (leI 0 (ixF (fun k=>vn (.l [[gd ((gd q 0).rows.getD 0 []) 0]]) (sub ((gd p 0).rows.getD k []) 0 2)) 0 (gd p 0).rows.length))):=by kernel_rfl
def aij:Ent:=(106,e2 (sd (.sl 41)) (.one (.c (.fn 222 [.cptr [si,si] 0]))) fun p q=>(⟨rb,[.b (eL (fun y=>vn (gd q 0) (sub y 0 2)) (gd p 0))]⟩,true))
theorem agc:ay f8 aij:=bm fun p q h=>au (N:=0) (ks:=afL) (al (fC ⟨afB,fC ⟨yx,fN⟩⟩)) Tryz.func106 fun hw=>by rw[ahl];refine congrArg (fun x=>some (bo,ob x)) ?_;exact (kq (fun k=>vn (gd q 0) (sub ((gd p 0).rows.getD k []) 0 2)) (gd p 0).rows.length 0).trans (by simp only[m0];rfl)
abbrev Ms:=find [aij]
abbrev NE:=[0,1,3,4]
theorem UH(N:Nat)(p q:b8):bf f8 Ms N NE Tryz.f131 rb [⟨sd (.sl 41),p⟩,⟨ag aI,q⟩]=some (bo,
 ob (eL (fun y=>vn (.l [[.l [sub q 0 2]]]) (sub y 0 2)) (gd p 0))):=by kernel_rfl
def uB(z:D)(q:b8):Bool:=(List.range z.rows.length).any fun k=>eJ q (sub (z.rows.getD k []) 0 2)
def Px:Ent:=(131,e2 (sd (.sl 41)) (ag aI) fun p q=>(⟨rb,[.b (uB (gd p 0) q)]⟩,true))
theorem Uy:ay f8 Px:=bm fun p q h=>au (N:=0) (ks:=NE) (al (fC ⟨agc,fN⟩)) Tryz.func131 fun hw=>by rw[UH];rfl
abbrev xK:=find [ml]
abbrev yJ:=[0,1,3,4,5,7,11,23]
def lN(N:Nat)(p q:b8):b8->Out:=bb f8 xK N yJ Tryz.f124 rb [⟨sd (.sl 41),p⟩,⟨ag aI,q⟩] 0
def yd(N:Nat)(p q:b8)(y O V U x4 J x6 M:D):List b8:= [[gd (sub (cP (sub (y.rows.getD J.int.toNat []) 0 2) [x6,M]) 0 3) 2],[.i 0],[gd (sub (cP (sub (y.rows.getD J.int.toNat []) 0 2) [x6,M]) 0 3) 2],[gd (sub (cP (sub (y.rows.getD J.int.toNat []) 0 2) [x6,M]) 0 3) 0,gd (sub (cP (sub (y.rows.getD J.int.toNat []) 0 2) [x6,M]) 0 3) 1],sub (sub (cP (sub (y.rows.getD J.int.toNat []) 0 2) [x6,M]) 0 3) 0 3,sub (sub (cP (sub (y.rows.getD J.int.toNat []) 0 2) [x6,M]) 0 3) 0 3,[x6,M],[gd (y.rows.getD J.int.toNat []) 0,gd (y.rows.getD J.int.toNat []) 1],[.l [[.l y.rows,.i J.int]]],[J],[y],[y],[O,V],[U],[x4],[J],[.b (ltI J.int (y.rows.length:Int))],[x6,M],[gd (sub (cP (sub (y.rows.getD J.int.toNat []) 0 2) [x6,M]) 0 3) 0,gd (sub (cP (sub (y.rows.getD J.int.toNat []) 0 2) [x6,M]) 0 3) 1]]
theorem DX(N:Nat)(p q:b8)(y O V U x4 J x6 M:D):(lN N p q) [y,O,V,U,x4,J,x6,M] =
 bif ltI J.int (y.rows.length:Int) then nd ((ah J.int y.rows.length)&&true) (ndN 4 (((ah J.int y.rows.length)&&true)&&(em (yd N p q y O V U x4 J x6 M) (yd N p q y O V U x4 J x6 M))) (bif (gd (sub (cP (sub (y.rows.getD J.int.toNat []) 0 2) [x6,M]) 0 3) 2).bool then ob true
 else nx [y,O,V,U,x4,.i (w64 (J.int+1)),x6,M]))
 else ex 0 [y,O,V,U,x4,J,x6,M]:=by kernel_rfl
theorem Qk(N:Nat)(p q:b8):bf f8 xK N yJ Tryz.f124 rb [⟨sd (.sl 41),p⟩,⟨ag aI,q⟩]=some (bo,
 (let y:=aX (lN N p q) N [gd p 0,gd q 0,gd q 1,.i 0,.i 0,.i 0,gd q 0,gd q 1]
  nd y.isSome (bif y.code==1 then some (1,y.pay)
  else nd (y.code==2) (ob false)))):=by kernel_rfl
def lD(z:D)(q:b8):Bool:= !(List.range z.rows.length).all fun k => !wu (sub (z.rows.getD k []) 0 2) q
def nZ:Ent:=(124,e2 (sd (.sl 41)) (ag aI) fun p q=>(⟨rb,[.b (lD (gd p 0) q)]⟩,true))
theorem nJ:ay f8 nZ:=bm fun p q h=>au (N:=(gd p 0).rows.length+1) (ks:=yJ) (al (fC ⟨md,fN⟩)) Tryz.func124 fun hw=>by
 rw[Qk];have hl:=fi (hw ⟨sd (.sl 41),p⟩ (by simp));have e:=dE (L:=lN ((gd p 0).rows.length+1) p q) (fun k => [gd p 0,gd q 0,gd q 1,.i 0,.i 0,.i (k:Int),gd q 0,gd q 1]) (gd p 0).rows.length (fun k => !wu (sub ((gd p 0).rows.getD k []) 0 2) q) [.b true] 0 (fun k hk=>?_) ?_ (N:=(gd p 0).rows.length+1) (by omega)
 ·simp only[j9] at e;rw[e];unfold lD;cases (List.range (gd p 0).rows.length).all fun k => !wu (sub ((gd p 0).rows.getD k []) 0 2) q <;> rfl
 ·show lN _ p q [_,_,_,_,_,.i (k:Int),_,_]=_;rw[DX];simp only[aA,di hk,E6,bK hk,lB,aU,bn,aG hk hl,g8];have hm:(gd (sub (cP (sub ((gd p 0).rows.getD k []) 0 2) [gd q 0,gd q 1]) 0 3) 2).bool=wu (sub ((gd p 0).rows.getD k []) 0 2) q:=acv _ _;rw[hm];cases wu (sub ((gd p 0).rows.getD k []) 0 2) q <;> rfl
 ·show lN _ p q [_,_,_,_,_,.i ((gd p 0).rows.length:Int),_,_]=_;rw[DX];simp only[aA,ca]
abbrev acj:=find [qj,Px]
abbrev acf:=[0,1,2,3,4]
theorem ady(N:Nat)(p q:b8):bf f8 acj N acf Tryz.f137 rb [⟨ag aR,p⟩,⟨ag aI,q⟩]=some (bo,
 bif ge (gd p 1) (sub q 0 2) then ob (!(uB (gd p 2) (sub q 0 2)))
 else ob false):=by kernel_rfl
def RE(p q:b8):Bool:=ge (gd p 1) q && !uB (gd p 2) q
def acq:Ent:=(137,e2 (ag aR) (ag aI) fun p q=>(⟨rb,[.b (RE p q)]⟩,true))
theorem adu:ay f8 acq:=bm fun p q h=>au (N:=0) (ks:=acf) (al (fC ⟨pQ,fC ⟨Uy,fN⟩⟩)) Tryz.func137 fun hw=>by rw[ady];show some (bo,bif ge (gd p 1) q then ob (!uB (gd p 2) q) else ob false)=_;unfold RE;cases ge (gd p 1) q <;> rfl
abbrev Pz:=find [gN,nZ]
abbrev LQ:=[0,1,2,3,4]
theorem TO(N:Nat)(p q:b8):bf f8 Pz N LQ Tryz.f97 rb [⟨ag aR,p⟩,⟨ag aI,q⟩]=some (bo,
 bif aT (gd p 1) (sub q 0 2) then ob (!(lD (gd p 2) (sub q 0 2)))
 else ob false):=by kernel_rfl
def tU(p q:b8):Bool:=aT (gd p 1) q && !lD (gd p 2) q
theorem Zb(p q:b8):eJ p q=eJ q p:=by unfold eJ;cases ltI (gd p 0).int (gd q 1).int <;> cases ltI (gd q 0).int (gd p 1).int <;> rfl
theorem Zj{z:D}{q:b8}(hz:bB z=true)(y:ax q=true):lD z q=uB z q:=by
 unfold lD uB;rw[y0];simp only[o8,<- G8,i9,D3,m7];have hm:∀k,k<z.rows.length->wu (sub (z.rows.getD k []) 0 2) q=eJ q (sub (z.rows.getD k []) 0 2):=fun k hk=>by rw[XH (SF hz hk) y,Zb]
 constructor
 ·intro h;refine Classical.byContradiction fun J=>h fun k hk hc=>J ⟨k,hk,?_⟩
  rw[<- hm k hk];exact hc
 ·rintro⟨k,hk,hc⟩ h;refine h k hk ?_;rw[hm k hk];exact hc
theorem afj{p q:b8}(h1:bB (gd p 1)=true)(J:bB (gd p 2)=true)(y:ax q=true):tU p q=RE p q:=by unfold tU RE;rw[Zj J y,zZ h1 y]
def CG:Ent:=(97,e2 (ag aR) (ag aI) fun p q=>(⟨rb,[.b (tU p q)]⟩,true))
theorem Fv:ay f8 CG:=bm fun p q h=>au (N:=0) (ks:=LQ) (al (fC ⟨gn,fC ⟨nJ,fN⟩⟩)) Tryz.func97 fun hw=>by rw[TO];show some (bo,bif aT (gd p 1) q then ob (!lD (gd p 2) q) else ob false)=_;unfold tU;cases aT (gd p 1) q <;> rfl
theorem Xb{q:b8}(h:inB (gd q 0).int 0 999=true):ax [gd q 0,.i (w64 ((gd q 0).int+1))]=true:=by simp only[inB,a9,g5] at h;exact yQ (r:=q) (by omega) (by omega)
structure amX(R O:D):Prop where
 len:R.rows.length<=60
 tx:∀i,i<R.rows.length->(gd (R.rows.getD i []) 0).int=((i+1:Nat):Int)
 sh:∀i,i<R.rows.length->YH (gd (R.rows.getD i []) 4)=true
 ord:∀k,k<O.rows.length->1<=vAt O k/\vAt O k<=(R.rows.length:Int)/\(gd (R.rows.getD (vAt O k - 1).toNat []) 3).int=3
 nodup:(an O).Nodup
 all:cnt (amM R) 0 R.rows.length=O.rows.length
def wrD(z ws:D):Nat->D
 | 0=>z
 | j+1=>UN (wrD z ws j) (gd (ws.rows.getD j []) 0).int (gd (ws.rows.getD j []) 1).int
theorem zR{z:D}(h:aL z=true){k:Nat}(hk:k<z.rows.length):inB (gd (z.rows.getD k []) 0).int 0 999=true/\leI (-1) (gd (z.rows.getD k []) 1).int=true:=by unfold aL at h;rw[a9] at h;have:=i9.1 h.2 k (m7.2 hk);unfold lW at this;simp only[a9] at this;refine⟨this.1,?_⟩;have h1:=this.2.1;simp only[inB,a9,g5] at h1;exact bi (by omega)
theorem Yc{z:D}(h:aL z=true):z.rows.length<=60:=by unfold aL at h;rw[a9,g5] at h;omega
theorem ahO{z ws:D}(h:cI z=true)(hw:aL ws=true):∀j,j<=ws.rows.length->cI (wrD z ws j)=true
 | 0,_=>h
 | j+1,hj=>akq (ahO h hw j (by omega)) (zR hw (by omega)).1 _
abbrev amZ(R O:D)(k:Nat):D:=gd (R.rows.getD (vAt O k - 1).toNat []) 4
structure ang(R O:D):Prop where
 ord:∀k,k<O.rows.length->1<=vAt O k/\vAt O k<=(R.rows.length:Int)
 sh:∀k,k<O.rows.length->YH (amZ R O k)=true
 rl:R.rows.length<=60
 ol:O.rows.length<=60
theorem adX{L:b8->Out}{st:Nat->b8}{n:Nat}(C:Nat->Bool)(v:Nat->b8)(j:Nat)(h1:∀k,k<n->L (st k)=bif C k then some (1,v k) else nx (st (k+1)))(M:L (st n)=some (j+2,st n)) :
  ∀(m k N:Nat),k+m=n->m<N->aX L N (st k)=match (List.range' k m).find? C with | some i=>some (1,v i) | none=>some (j+2,st n):=by
 intro m
 induction m with
 | zero =>
  intro k N hk U;obtain⟨N,rfl⟩:∃y,N=y+1:=⟨N - 1,by omega⟩;obtain rfl:k=n:=by omega
  exact lZ (c:=j+1) M
 | succ m O =>
  intro k N hk U;obtain⟨N,rfl⟩:∃y,N=y+1:=⟨N - 1,by omega⟩;have h:=h1 k (by omega);rw[N3,List.find?_cons];cases J:C k with
  | true =>rw[J,g6] at h;exact lZ (c:=0) h
  | false =>rw[J,f9] at h;rw[rR h];exact O (k+1) N (by omega) (by omega)
def cellsOf(p:b8)(k:Nat):D:=gd ((gd p 9).rows.getD k []) 3
set_option maxRecDepth 100000
set_option maxHeartbeats 4000000
open Go.RowKit Go.Lib
def agE(B:Option Nat)(n:Nat):Nat->Nat:=fun b=>if B=some b then n else 0
theorem Gk{P:Program}{w:World}{e:TypeId}{row:List S}{z:D}{u:Value}{B:Option Nat}(y:br P e=some row)(h:eh w e row z.rows u B):VD P w (agE B (z.rows.length*row.length)) (.sl e) z u:=by
 rcases h with⟨rfl,M,A,rfl⟩ | ⟨b,cap,arr,rfl,rfl,h2,h3,h4,h5,h6⟩
 ·have:=VD.sl (P:=P) (w:=w) (prot:=agE none (z.rows.length*row.length)) e z A 0 row (fun _ _=>undef) y (by rw[M];simp) (by omega) (by rw[M];intro i j hi;simp at hi) (by rw[M];intro i j s hi;simp at hi)
  rwa [show z.rows.length=0 from by rw[M];rfl] at this
 ·refine VD.sl e z _ cap row (fun i j=>arr[i*row.length+j]?.getD undef) y h2 h3 (fun i j hi V=>?_) (fun i j s hi U=>?_)
  ·obtain⟨v,J,O⟩:=h6 i j _ hi (g9 V);refine⟨b,0,rfl,?_,?_⟩
   ·rw[J,m0,eW h4];exact J
   ·show _<(if some b=some b then _ else _);rw[m6 rfl,m0];have:i*row.length+row.length<=z.rows.length*row.length:=by rw[<- E3];exact z7 _ hi
    omega
  ·obtain⟨v,J,O⟩:=h6 i j s hi U;simp only[J];exact O.vd
theorem alL{P:Program}{w:World}{g:G}{base:Nat}{t:Tok}{Z:Bool}{e:TypeId}{row:List S}{rows:List b8}{v:Value}(V:row.all S.flat=true)(h:dX P w g base t Z e row rows v):∃B,eh w e row rows v B/\∀b,B=some b->base<=b:=by
 rcases h with⟨W,_,M⟩ | ⟨cap,arr,E,h1,M,⟨h3,rfl,_⟩,h4,h5,h6,h7,h8,h9,h10,h11⟩
 ·exact⟨none,.inl ⟨rfl,W,M⟩,fun b y=>by cases y⟩
 ·refine⟨some (g.ρ t),.inr ⟨g.ρ t,cap,arr,rfl,h1,M,h3,h6,h7,fun i j s hi O=>?_⟩,fun b y=>by injection y with y;omega⟩;obtain⟨u,U,Y⟩:=h11 i j s hi O;have J:=i9.1 V s (A2 O);exact⟨u,U,(Y.vd_flat J).fv J⟩
theorem uC{w:World}{e:TypeId}{row:List S}{rows:List b8}{v:Value}{B:Option Nat}(h:eh w e row rows v B):∀b,B=some b->b<w.heap.size:=by
 rcases h with⟨rfl,_⟩ | ⟨b,cap,arr,rfl,_,_,_,h4,_⟩
 ·intro b y;cases y
 ·intro b' y;injection y with y
  subst y;exact aP h4
theorem adI{w:World}{z:D}{u:Value}{B:Option Nat}{k v:Int}(V:eh w 108 eX z.rows u B)(hz:cI z=true)(hk:inB k 0 999=true)(hv:leI (-1) v=true) :
  Calls f8 259 #[u,.int .i64 k,.int .i64 v] w fun ex w'=>∃M J,ex=.returned M/\Below w.heap.size w w'/\eh w' 108 eX (UN z k v).rows M J/\∀b,J=some b->w.heap.size<=b:=by
 have U:=afb [⟨sd (.sl 108),[z]⟩,⟨ri,[.i k]⟩,⟨ri,[.i v]⟩] ⟨.one (.c (.own (0,0) true 108)),[UN z k v]⟩ (by
  have h:(cI (gd [z] 0)&&inB (gd [D.i k] 0).int 0 999&&leI (-1) (gd [D.i v] 0).int)=true:=by show (cI z&&inB k 0 999&&leI (-1) v)=true;rw[hz,hk,hv];rfl
  simp only[acM,e3,s9,u5,g6,h];rfl)
 have U:=(U.n rfl).2 w (agE B (z.rows.length*2)) #[u,.int .i64 k,.int .i64 v] ⟨rfl,fun j t y=>?_⟩ (fun b hb=>?_)
 ·refine U.mono ?_;rintro ex w' ⟨M,g',rfl,W⟩;obtain⟨row,O,Y⟩:=W.val;rw[kc] at O;injection O with O;subst O
  obtain⟨J,Z,q2⟩:=alL rfl Y;exact⟨M,J,rfl,W.below,Z,q2⟩
 ·match j,y with
  | 0,y =>
   injection y with y;subst y
   exact⟨u,rfl,Gk kc V⟩
  | 1,y =>
   injection y with y;subst y
   exact⟨_,rfl,VD.int .i64 (.i k)⟩
  | 2,y =>
   injection y with y;subst y
   exact⟨_,rfl,VD.int .i64 (.i v)⟩
 ·show (if B=some b then _ else 0)=0;rw[j7 (fun e=>by have:=uC V b e;omega)]
theorem ZV{w w':World}{e:TypeId}{row:List S}{rows:List b8}{v:Value}{B:Option Nat}(h:eh w e row rows v B)(y:Below w.heap.size w w'):eh w' e row rows v B:=by
 rcases h with h | ⟨b,cap,arr,h1,h2,h3,h4,h5,h6⟩
 ·exact .inl h
 ·exact .inr ⟨b,cap,arr,h1,h2,h3,h4,(y.block b (aP h5)).trans h5,h6⟩
theorem afa:br f8 70=some eX:=by kernel_rfl
theorem Su{w:World}{prot:Nat->Nat}{x:D}{v:Value}(h:VD f8 w prot (.sl 70) x v):∃A c,v=.slice A x.rows.length c/\x.rows.length<=c/\c<=9223372036854775807 /\
  ∀i,i<x.rows.length->∃b o,A=some ⟨b,o,none⟩/\w.cell? ⟨b,o+i*2,none⟩=some (.int .i64 (gd (x.rows.getD i []) 0).int)/\w.cell? ⟨b,o+i*2+1,none⟩=some (.int .i64 (gd (x.rows.getD i []) 1).int):=by
 cases h with
 | sl e d A c row u J h1 Y O U =>
  rw[afa] at J;injection J with J
  subst J;refine⟨A,c,rfl,h1,Y,fun i hi=>?_⟩;obtain⟨b,o,V,hc,_⟩:=O i 0 hi (by decide);obtain⟨b',Z,y,M,_⟩:=O i 1 hi (by decide);rw[V] at y;injection y with y
  injection y with e1 e2 _
  subst e1 e2;have W:=vl (k:=.i64) (U i 0 _ hi rfl);have e1:=vl (k:=.i64) (U i 1 _ hi rfl);rw[W] at hc;rw[e1] at M;exact⟨b,o,V,hc,M⟩
theorem Nm{prot:Nat->Nat}{w:World}{q:b8}{J:Array Value}(h:lq f8 prot w [⟨sd (.sl 70),q⟩] J):∃u,J = #[u]/\VD f8 w prot (.sl 70) (gd q 0) u:=by
 obtain⟨u,y,hv⟩:=h.2 0 _ rfl;refine⟨u,pX h [u] rfl fun j t O h1 M=>?_,hv⟩
 match j,h1 with
 | 0,h1=>rw[M] at y;injection y with y;subst y;rfl
theorem Rs{w:World}{prot:Nat->Nat}{z ws:D}{u v1:Value}{B:Option Nat}(hO:eh w 108 eX z.rows u B)(hz:cI z=true)(hw:aL ws=true)(V:∀a0,aM w a0 B->VD f8 a0 prot (.sl 70) ws v1) :
  Calls f8 228 #[u,v1] w fun ex w'=>∃O y,ex=.returned O/\aM w w' B/\eh w' 108 eX (wrD z ws ws.rows.length).rows O y/\∀b,y=some b->B=some b\/w.heap.size<=b:=by
 have hl:=Yc hw;obtain⟨A,c,rfl,c2,b6,_⟩:=Su (V w (aM.refl w B));have b5:Hid _:=V;have HO:Hid _:=hO;have HZ:Hid _:=hz;have HW:Hid _:=hw;clear V hO hz hw;go_enter Tryz.func228,Tryz.ntmps228
 go_wp2_with fail
 go_loopw [0,9] (fun v i wr=>∃(k:Nat) (Z:Option Nat),k<=ws.rows.length/\i=.int .i64 (k:Int)/\Hid (aM w wr B)/\Hid (eh wr 108 eX (wrD z ws k).rows v Z)/\Hid (∀b,Z=some b->B=some b\/w.heap.size<=b)) (fun _ i _=>ws.rows.length - (Go.RowKit.intOf i).toNat)
 case atStart=>exact⟨0,B,by omega,rfl,aM.refl w B,HO.out,fun b U=>.inl U⟩
 case round =>
  obtain⟨k,Z,hk,rfl,W,HOk,HB⟩:=hrel;by_cases a1:k<ws.rows.length
  ·obtain⟨A',c',b3,_,_,M⟩:=Su (b5.out wr W.out);injection b3 with e1 e2 e3;subst e1 e3;obtain⟨b,o,rfl,c0,c1⟩:=M k a1;obtain⟨w1,w2⟩:=zR HW.out a1;have a3:=ahO HZ.out HW.out k (by omega);have a2:∀x:World,Below wr.heap.size wr x->aM w x B:=fun x hx=>W.out.trans (aM.of_below B hx) (fun b U=>.inl U)
   have a5:wrD z ws (k+1)=UN (wrD z ws k) (gd (ws.rows.getD k []) 0).int (gd (ws.rows.getD k []) 1).int:=rfl;generalize (gd (ws.rows.getD k []) 0).int=kk at *;generalize (gd (ws.rows.getD k []) 1).int=vv at *;have J:∀x:World,Below wr.heap.size wr x->Calls f8 259 #[u0,.int .i64 kk,.int .i64 vv] x fun ex w'=>∃O y,ex=.returned O/\Below x.heap.size x w'/\eh w' 108 eX (UN (wrD z ws k) kk vv).rows O y/\∀b,y=some b->x.heap.size<=b:=fun x hx =>adI (ZV HOk.out hx) a3 w1 w2
   have Y:Hid _:=J;have a8:Hid _:=a5;have b1:Hid _:=a2;clear J a5 a2 w1 w2 a3 M
   go_wp2_with fail
   refine (Y.out _ ((Below.refl _ _).alloc (i8 _) _)).mono ?_;rintro e w' ⟨O,y,rfl,a7,a6,a4⟩;have b2:Hid _:=a7;have b4:Hid _:=a6;have b0:Hid _:=a4;clear a7 a6 a4
   go_wp2_with fail
   go_roundw
   case rel =>have hA:Below wr.heap.size wr (wr.alloc (Obj.cells #[Value.int .i64 kk,Value.int .i64 vv] 70)):=(Below.refl _ _).alloc (i8 _) _;refine⟨k+1,y,by omega,by go_num,b1.out _ (hA.trans (b2.out.mono hA.size)),by rw[a8.out];exact b4.out,fun b U=>.inr ?_⟩;have q1:=b0.out b U;have q2:=W.out.size;simp at q1;omega
   case measure=>simp[Go.RowKit.intOf];omega
  ·obtain rfl:k=ws.rows.length:=by omega
   go_wp2_with fail
   go_ret
   exact⟨_,Z,rfl,W.out,HOk.out,HB.out⟩
def Iw:Ent:=(228,e2 (sd (.sl 108)) (sd (.sl 70)) fun p q=>(⟨.tup [.agg [.any]],[wrD (gd p 0) (gd q 0) (gd q 0).rows.length]⟩,cI (gd p 0)&&aL (gd q 0)))
theorem Rl:ay f8 Iw:=bm fun p q h=>by
 have h:(cI (gd p 0)&&aL (gd q 0))=true:=h;rw[a9] at h;refine aJ.ofK rfl ⟨cB Tryz.func228 (by kernel_rfl) (by kernel_rfl),fun e x rest row y J Y w prot u B vs hO hB a0 M a1=>?_⟩;injection y with y hre
 injection y with y hp
 injection y with y
 injection y with y
 injection y with y
 injection y with y
 subst y hre;have V:gd p 0=x:=by rw[hp];rfl
 rw[kc] at J;injection J with J
 subst J;obtain⟨v1,rfl,hv⟩:=Nm (M w (aM.refl w B));rw[V] at h;have:=Rs (prot:=prot) (ws:=gd q 0) (v1:=v1) hO h.1 h.2 (fun U Z=>by
  obtain⟨v2,e2,W⟩:=Nm (M U Z);have e2:v1=v2:=by have:=congrArg (fun a:Array Value=>a[0]?) e2;simpa using this
  rw[e2];exact W)
 show Calls _ _ #[u,v1] w fun ex w'=>∃O B',ex=.returned O/\aM w w' B/\eh w' _ _ (wrD (gd p 0) (gd q 0) (gd q 0).rows.length).rows O B'/\_
 rw[V];exact this
def gE(C:b8->Bool)(rows:List b8):List b8:=rows.filter fun r => !C r
structure KI(C:b8->Bool)(rows rj:List b8)(i j:Nat):Prop where
 len:rj.length=rows.length
 lt:i<j
 le:j<=rows.length
 num:i=(gE C (rows.take j)).length
 done:rj.take i=gE C (rows.take j)
 rest:∀k,j<=k->rj.getD k []=rows.getD k []
theorem mo{rows:List b8}{j:Nat}(h:j<rows.length):rows.take (j+1)=rows.take j ++ [rows.getD j []]:=by rw[H9,g9 h,g4,g9 h];rfl
theorem KI.keep{C:b8->Bool}{rows y:List b8}{i j:Nat}(h:KI C rows y i j)(J:j<rows.length)(hc:C (rows.getD j [])=false):KI C rows (y.set i (rows.getD j [])) (i+1) (j+1):=by
 have hk:gE C (rows.take (j+1))=gE C (rows.take j) ++ [rows.getD j []]:=by
  rw[mo J];unfold gE;rw[E7]
  congr 1
  simp only[C6,hc,A4,if_true,O4]
 have hl:=h.len;have O:=h.lt;refine⟨by simp[hl],by omega,by omega,by rw[hk,i6,<- h.num];rfl,?_,fun k M=>?_⟩
 ·rw[hk,<- h.done,mo (by simp;omega)]
  congr 1
  ·rw[List.take_set_of_le (i8 _)]
  ·rw[g4,List.getElem?_set_self (by omega)];rfl
 ·rw[g4,List.getElem?_set_ne (by omega),<- g4];exact h.rest k (by omega)
theorem KI.skip{C:b8->Bool}{rows y:List b8}{i j:Nat}(h:KI C rows y i j)(J:j<rows.length)(hc:C (rows.getD j [])=true):KI C rows y i (j+1):=by
 have hk:gE C (rows.take (j+1))=gE C (rows.take j):=by rw[mo J];unfold gE;rw[E7];simp only[C6,hc,n4,y4,if_false,O4,D9]
 have O:=h.lt;exact⟨h.len,by omega,by omega,by rw[hk];exact h.num,by rw[hk];exact h.done,fun k M=>h.rest k (by omega)⟩
theorem CS{C:b8->Bool}{rows:List b8}(h:∀k,k<rows.length->C (rows.getD k [])=false):gE C rows=rows:=by unfold gE;rw[G4];intro r y;obtain⟨k,hk,rfl⟩:=t9 y;have:=h k hk;rw[g4,g9 hk] at this;simpa using this
theorem KI.start{C:b8->Bool}{rows:List b8}{y:Nat}(h:y<rows.length)(M:∀k,k<y->C (rows.getD k [])=false)(hc:C (rows.getD y [])=true):KI C rows rows y (y+1):=by
 have J:gE C (rows.take y)=rows.take y:=CS fun k hk=>by
  have hk:k<y:=by have:=hk;simp at this;omega
  rw[g4,u9,m6 hk,<- g4];exact M k hk
 have hk:gE C (rows.take (y+1))=rows.take y:=by rw[mo h];unfold gE;rw[E7];simp only[C6,hc,n4,y4,if_false,O4,D9];exact J
 exact⟨rfl,by omega,by omega,by rw[hk,w5];omega,hk.symm,fun _ _=>rfl⟩
theorem qV(C:Nat->Bool):∀(n i:Nat),(ixF C i n = -1/\∀k,k<n->C (i+k)=false)\/∃k,k<n/\ixF C i n=((i+k:Nat):Int)/\C (i+k)=true/\∀y,y<k->C (i+y)=false
 | 0,i=>.inl ⟨rfl,fun k hk=>absurd hk (G2 _)⟩
 | n+1,i=>by
  cases h:C i with
  | true=>exact .inr ⟨0,by omega,by simp[ixF,h],h,fun k hk=>absurd hk (G2 _)⟩
  | false =>
   rcases qV C n (i+1) with⟨e,J⟩ | ⟨k,hk,e,ht,J⟩
   ·refine .inl ⟨by simp[ixF,h,e],fun k hk=>?_⟩;cases k with
    | zero=>exact h
    | succ k=>have:=J k (by omega);rwa [show i+1+k=i+(k+1) from by omega] at this
   ·refine .inr ⟨k+1,by omega,by simp only[ixF,h];rw[show i+(k+1)=i+1+k from by omega];exact e,by rwa [show i+(k+1)=i+1+k from by omega],fun y M=>?_⟩;cases y with
    | zero=>exact h
    | succ y=>have:=J y (by omega);rwa [show i+1+y=i+(y+1) from by omega] at this
theorem Pv{P:Program}(w:World)(t e Z:TypeId)(z:Value)(Y:P.underlying t=some (.slice e))(hv:∀w,(zeroValue e).run P w=.ok z w)(h1:∀u∈z.cells.toList,u.oneCell'=true)(b o n c:Nat)(hn:0<n)(M:0<z.cells.size)
  (hc:∀j,j<n*z.cells.size->(w.cell? ⟨b,o+j,none⟩).isSome=true) (U:∀j,j<n*z.cells.size->w.frozen? ⟨b,o+j,none⟩=false) :
  (Builtin.clear_ #[t] Z #[.slice (some ⟨b,o,none⟩) n c]).run P w=.ok (.tuple #[]) (w.setCells b o (Builtin.zeroCells z.cells n).toList):=by
 have y:(Builtin.zeroCells z.cells n).toList.length=n*z.cells.size:=by simp[size_zeroCells]
 have J:=run_storeCells_cells (P:=P) b o (Builtin.zeroCells z.cells n).toList 0 w (by rw[y];simpa using hc) (by rw[y];simpa using U) (fun u W=>by
  obtain⟨j,O,rfl⟩:=t9 W;rw[y] at O;have:(Builtin.zeroCells z.cells n).toList[j]'(by rw[y];exact O)=z.cells[j % z.cells.size]'(Nat.mod_lt _ M):=by have V:j % z.cells.size<z.cells.size:=Nat.mod_lt j M;simp only[Builtin.zeroCells,K3,Array.toList_range,J3,L3];exact getElem!_pos z.cells _ V
  rw[this];exact h1 _ (by simp))
 obtain⟨m,rfl⟩:∃m,n=m+1:=⟨n - 1,by omega⟩;simp only[F8] at J;simp[Builtin.clear_,run_underlying Y,hv,J]
abbrev oF(k:Nat):List S:=List.replicate k (.int .i64)
abbrev BL(k:Nat)(r:b8):List Value:=(List.range k).map fun j=>.int .i64 (gd r j).int
theorem ZR{k j:Nat}(r:b8)(h:j<k):(BL k r)[j]?=some (.int .i64 (gd r j).int):=by simp[BL,h]
theorem Va{w:World}{e:TypeId}{k:Nat}{rows:List b8}{b cap:Nat}{y:Array Value}(U:w.heap[b]?=some (.cells y e (0,0)))(V:y.size=cap*k)(M:rows.length<=cap)(O:cap<=9223372036854775807)
  (hc:∀i j,i<rows.length->j<k->y[i*k+j]?=some (.int .i64 (gd (rows.getD i []) j).int)):eh w e (oF k) rows (.slice (some ⟨b,0,none⟩) rows.length cap) (some b):=
 .inr ⟨b,cap,y,rfl,rfl,M,O,U,by simpa using V,fun i j s hi W=>by
  obtain⟨h1,J⟩:=g7.1 W;have h1:j<k:=by simpa using h1
  have J:S.int .i64=s:=by simpa using J
  subst J;exact⟨.int .i64 (gd (rows.getD i []) j).int,by simpa using hc i j hi h1,rfl⟩⟩
theorem zX{w:World}{e:TypeId}{k:Nat}{rows:List b8}{u:Value}{B:Option Nat}(h:eh w e (oF k) rows u B):(B=none/\rows = []/\∃A,u=.slice A 0 0) \/
  ∃(b cap:Nat) (y:Array Value),B=some b/\u=.slice (some ⟨b,0,none⟩) rows.length cap/\rows.length<=cap/\cap<=9223372036854775807/\w.heap[b]?=some (.cells y e (0,0))/\y.size=cap*k /\
   ∀i j,i<rows.length->j<k->y[i*k+j]?=some (.int .i64 (gd (rows.getD i []) j).int):=by
 rcases h with h | ⟨b,cap,y,h1,h2,h3,h4,h5,h6,h7⟩
 ·exact .inl h
 ·refine .inr ⟨b,cap,y,h1,h2,h3,h4,h5,by simpa using h6,fun i j hi M=>?_⟩;obtain⟨u,J,O⟩:=h7 i j (.int .i64) hi (by simp[M]);rw[show (oF k).length=k from by simp] at J;rw[J];exact congrArg some O
theorem gm{w:World}{e:TypeId}{k:Nat}{rows:List b8}{u:Value}{b:Nat}(h:eh w e (oF k) rows u (some b)){i j:Nat}(hi:i<rows.length)(y:j<k) :
  w.cell? ⟨b,i*k+j,none⟩=some (.int .i64 (gd (rows.getD i []) j).int)/\w.frozen? ⟨b,i*k+j,none⟩=false:=by
 rcases zX h with⟨J,_⟩ | ⟨b',cap,arr,hb,_,hle,_,hh,hs,hc⟩
 ·cases J
 ·injection hb with hb
  subst hb;exact⟨by rw[eW hh];exact hc i j hi y,iC hh _⟩
theorem Xy{w O:World}{e:TypeId}{k:Nat}{y:List b8}{b cap n i:Nat}(h:eh w e (oF k) y (.slice (some ⟨b,0,none⟩) n cap) (some b))(W:y.length=n)(hi:i<n)(V:O.heap[b]?=w.heap[b]?)(r:b8) :
  eh (O.setCells b (i*k) (BL k r)) e (oF k) (y.set i r) (.slice (some ⟨b,0,none⟩) n cap) (some b):=by
 rcases zX h with⟨Z,_⟩ | ⟨b',cap',arr,hb,hu,hle,h63,hh,hs,hc⟩
 ·cases Z
 ·injection hb with hb
  subst hb;injection hu with _ hu1 hu2
  subst hu2;have J:(BL k r).length=k:=by simp
  have U:i*k+k<=cap*k:=by
   have:=z7 k (show i+1<=cap by omega)
   rwa [F6,Nat.one_mul] at this
  obtain⟨a0,a1,a2,a3,a4⟩:=bP b e (0,0) (BL k r) (i*k) O arr (V.trans hh) (by rw[hs,J];exact U);have hl:(y.set i r).length=n:=by simp[W]
  have:=Va (rows:=y.set i r) a1 (by rw[a2,hs]) (by omega) h63 (fun m j hm Y=>by
   rw[hl] at hm;have M:(y.set i r).getD m []=if i=m then r else y.getD m []:=by
    rw[g4,L9];by_cases e:i=m
    ·subst e;simp[W,hi]
    ·simp[e,g4]
   rw[M];by_cases e:i=m
   ·subst e;rw[m6 rfl];exact a4 j _ (ZR r Y)
   ·rw[j7 e,a3 _ (by
     rw[J];rcases Nat.lt_or_gt_of_ne e with h | h
     ·right;have:=z7 k (show i+1<=m from h);rw[F6,Nat.one_mul] at this;omega
     ·left;have:=z7 k (show m+1<=i from h);rw[F6,Nat.one_mul] at this;omega)]
    exact hc m j (by omega) Y)
  rwa [hl] at this
theorem io{w w':World}{e:TypeId}{row:List S}{rows:List b8}{u:Value}{B:Option Nat}(h:eh w e row rows u B)(y:Below w.heap.size w w'):eh w' e row rows u B:=by
 rcases h with h | ⟨b,cap,arr,h1,h2,h3,h4,h5,h6⟩
 ·exact .inl h
 ·exact .inr ⟨b,cap,arr,h1,h2,h3,h4,(y.block b (aP h5)).trans h5,h6⟩
abbrev oL:Value:=(.agg #[.int .i64 0,.int .i64 0,.int .i64 0,.int .i64 0])
theorem Tv:∀w,(zeroValue 93).run f8 w=.ok oL w:=fun w=>Tryz.zeroValue93 w
theorem qr{w:World}{rows:List b8}{u:Value}{B:Option Nat}(hO:eh w 93 (oF 4) rows u B)(F:FuncId)(fa:Array Value)(C:b8->Bool)(hC:∀r,C r=C [.i (gd r 0).int,.i (gd r 1).int,.i (gd r 2).int,.i (gd r 3).int])
  (m2:∀vs w,(callFunc F vs).run f8 w=.ok (.enter F vs) w)
  (a7:Calls f8 234 #[u,.func (.func F) #[] fa] w fun ex w'=>ex=.returned (.int .i64 (ixF (fun k=>C (rows.getD k [])) 0 rows.length))/\Below w.heap.size w w')
  (a6:∀(c0:World) (x0 x1 x2 x3:Int),aM w c0 B->Calls f8 F (#[.agg #[.int .i64 x0,.int .i64 x1,.int .i64 x2,.int .i64 x3]]++fa) c0 fun ex w'=>ex=.returned (.bool (C [.i x0,.i x1,.i x2,.i x3]))/\Below c0.heap.size c0 w') :
  Calls f8 164 #[u,.func (.func F) #[] fa] w fun ex w'=>∃v' B',ex=.returned v'/\aM w w' B/\eh w' 93 (oF 4) (gE C rows) v' B'/\∀b,B'=some b->B=some b\/w.heap.size<=b:=by
 by_cases b4:ixF (fun k=>C (rows.getD k [])) 0 rows.length = -1
 ·rw[b4] at a7;have c9:gE C rows=rows:=by
   rcases qV (fun k=>C (rows.getD k [])) rows.length 0 with⟨_,h⟩ | ⟨k,_,h,_⟩
   ·exact CS fun k hk=>by have:=h k hk;rwa [m0] at this
   ·rw[b4] at h;omega
  rw[c9];have HO:Hid _:=hO;clear hO a6 c9;go_enter Tryz.func164,Tryz.ntmps164
  go_wp2_with fail
  refine a7.mono ?_;rintro e w' ⟨rfl,y⟩
  go_wp2_with fail
  go_ret
  exact⟨u,B,rfl,aM.of_below B y,io HO.out y,fun b y=>.inl y⟩
 ·obtain⟨k0,g1,a5,e8,f0⟩:∃k0:Nat,ixF (fun k=>C (rows.getD k [])) 0 rows.length=(k0:Int)/\k0<rows.length/\(∀k,k<k0->C (rows.getD k [])=false)/\C (rows.getD k0 [])=true:=by
   rcases qV (fun k=>C (rows.getD k [])) rows.length 0 with⟨h,_⟩ | ⟨k,h1,h2,h3,h4⟩
   ·exact absurd h b4
   ·simp only[m0] at h2 h3 h4;exact⟨k,h2,h1,h4,h3⟩
  rw[g1] at a7;obtain⟨b,cap,b0,rfl,rfl,l0,l3,hh,hs,hc⟩:∃(b cap:Nat) (b0:Array Value),B=some b/\u=.slice (some ⟨b,0,none⟩) rows.length cap/\rows.length<=cap/\cap<=9223372036854775807/\w.heap[b]?=some (.cells b0 93 (0,0))/\b0.size=cap*4 /\
    ∀i j,i<rows.length->j<4->b0[i*4+j]?=some (.int .i64 (gd (rows.getD i []) j).int):=by
   rcases zX hO with⟨_,h0,_⟩ | h
   ·rw[h0] at a5;simp at a5
   ·exact h
  have HO:Hid _:=hO;have h5:Hid _:=a6;have k4:((k0:Int) == -1)=false:=E9.2 (by omega);have k1:Hid (KI C rows rows k0 (k0+1)):=KI.start a5 e8 f0;have l2:b<w.heap.size:=aP hh;clear hO a6 hh hs hc e8 f0 b4 g1;go_enter Tryz.func164,Tryz.ntmps164
  go_wp2_with fail
  refine a7.mono ?_;rintro e w' ⟨rfl,y⟩;have g2:Hid _:=y;clear y
  go_wp2_with fail
  go_loopw [5,6] (fun s5 s6 wr=>∃(i j:Nat) (U:List b8),s5=.int .i64 i/\s6=.int .i64 j/\Hid (aM w wr (some b))/\Hid (eh wr 93 (oF 4) U (.slice (some ⟨b,0,none⟩) rows.length cap) (some b))/\Hid (KI C rows U i j)) (fun _ s6 _=>rows.length - (intOf s6).toNat)
  case atStart=>exact⟨k0,k0+1,rows,rfl,by go_num,aM.of_below _ g2.out,io HO.out g2.out,k1.out⟩
  case round =>
   obtain⟨i,j,U,rfl,rfl,HC,J,HK⟩:=hrel;have k9:=HK.out.lt;have k6:=HK.out.le;have h8:=HK.out.len;by_cases f3:j<rows.length
   ·have d6:(U.getD j [])=rows.getD j []:=HK.out.rest j (i8 _);obtain⟨a8,_⟩:=gm J.out (i:=j) (j:=0) (by omega) (by omega);obtain⟨b5,b6⟩:=gm J.out (i:=i) (j:=0) (by omega) (by omega);obtain⟨e6,_⟩:=gm J.out (i:=j) (j:=1) (by omega) (by omega);obtain⟨c2,d7⟩:=gm J.out (i:=i) (j:=1) (by omega) (by omega);obtain⟨e0,_⟩:=gm J.out (i:=j) (j:=2) (by omega) (by omega);obtain⟨d8,c3⟩:=gm J.out (i:=i) (j:=2) (by omega) (by omega);obtain⟨c6,_⟩:=gm J.out (i:=j) (j:=3) (by omega) (by omega);obtain⟨c7,c4⟩:=gm J.out (i:=i) (j:=3) (by omega) (by omega);simp only[F8] at a8 b5 b6;have h7:b<wr.heap.size:=by have:=HC.out.size;omega
    rw[d6] at a8 e6 e0 c6;have a0:=fun (x:World) (hx:Below wr.heap.size wr x)=>h5.out x (gd (rows.getD j []) 0).int (gd (rows.getD j []) 1).int (gd (rows.getD j []) 2).int (gd (rows.getD j []) 3).int (HC.out.trans (aM.of_below _ hx) (fun b y=>.inl y))
    rw[<- hC] at a0;generalize f1:(gd (rows.getD j []) 0).int=x0 at *;generalize (gd (U.getD i []) 0).int=o0 at *;have i1:Hid _:=f1;generalize g3:(gd (rows.getD j []) 1).int=x1 at *;generalize (gd (U.getD i []) 1).int=o1 at *;have h9:Hid _:=g3;generalize e9:(gd (rows.getD j []) 2).int=x2 at *;generalize (gd (U.getD i []) 2).int=o2 at *;have i2:Hid _:=e9;generalize f2:(gd (rows.getD j []) 3).int=x3 at *;generalize (gd (U.getD i []) 3).int=o3 at *;have i0:Hid _:=f2;have W:Hid _:=a0;clear f1 g3 e9 f2 a0 d6;cases hq:C (rows.getD j []) with
    | false =>
     have HQ:Hid _:=hq;rw[hq] at W;clear hq
     go_wp2_with fail
     refine (W.out _ ((Below.refl _ _).alloc (i8 _) _)).mono ?_;rintro e M ⟨rfl,V⟩;have k2:=V.size;have Z:M.heap[wr.heap.size]?=some (.cells #[.int .i64 x0,.int .i64 x1,.int .i64 x2,.int .i64 x3] 93 (0,0)):=(V.block wr.heap.size (by simp)).trans (by letI:Low:=Dy;exact gH wr _);have l4:M.cell? ⟨wr.heap.size,0,none⟩=some (.int .i64 x0):=by rw[eW Z];rfl
     have k7:M.cell? ⟨wr.heap.size,1,none⟩=some (.int .i64 x1):=by rw[eW Z];rfl
     have l9:M.cell? ⟨wr.heap.size,2,none⟩=some (.int .i64 x2):=by rw[eW Z];rfl
     have l7:M.cell? ⟨wr.heap.size,3,none⟩=some (.int .i64 x3):=by rw[eW Z];rfl
     clear Z;have O:M.heap[b]?=wr.heap[b]?:=(V.block b (by simp;omega)).trans (Below.heap_alloc wr _ b h7);have l1:M.cell? ⟨b,i*4,none⟩=some (.int .i64 o0):=(bg O _).trans b5;have m5:M.frozen? ⟨b,i*4,none⟩=false:=by rw[<- b6];unfold World.frozen?;simp only;rw[O]
     have k5:M.cell? ⟨b,i*4+1,none⟩=some (.int .i64 o1):=(bg O _).trans c2;have m3:M.frozen? ⟨b,i*4+1,none⟩=false:=by rw[<- d7];unfold World.frozen?;simp only;rw[O]
     have l6:M.cell? ⟨b,i*4+2,none⟩=some (.int .i64 o2):=(bg O _).trans d8;have l5:M.frozen? ⟨b,i*4+2,none⟩=false:=by rw[<- c3];unfold World.frozen?;simp only;rw[O]
     have k8:M.cell? ⟨b,i*4+3,none⟩=some (.int .i64 o3):=(bg O _).trans c7;have m1:M.frozen? ⟨b,i*4+3,none⟩=false:=by rw[<- c4];unfold World.frozen?;simp only;rw[O]
     have c8:Hid _:=V;have i3:Hid _:=O;clear V O b5 b6 a8 c2 d7 e6 d8 c3 e0 c7 c4 c6
     go_wp2_with fail
     have hA:Below wr.heap.size wr M:=((Below.refl _ _).alloc (i8 _) _).trans (c8.out.mono (by simp));have e7 : [Value.int .i64 x0,.int .i64 x1,.int .i64 x2,.int .i64 x3]=BL 4 (rows.getD j []):=by rw[<- i1.out,<- h9.out,<- i2.out,<- i0.out];rfl
     obtain⟨d1,d2,d3,d4,d5⟩:=bE b [Value.int .i64 x0,.int .i64 x1,.int .i64 x2,.int .i64 x3] (i*4) M;refine⟨⟨i+1,j+1,U.set i (rows.getD j []),by go_num,by go_num,(show Hid _ from ?_),(show Hid _ from ?_),HK.out.keep f3 HQ.out⟩,by simp[intOf];omega⟩
     ·exact (HC.out.trans (aM.of_below _ hA) (fun b y=>.inl y)).trans ⟨d1,d2,d3,D5 d4.symm,fun k hk c1=>d5 k (fun e=>c1 (by rw[e]))⟩ (fun b y=>.inl y)
     ·have:=Xy (i:=i) J.out h8 (by omega) i3.out (rows.getD j []);rw[<- e7] at this;exact this
    | true =>
     have HQ:Hid _:=hq;rw[hq] at W;clear hq b5 b6 c2 d7 d8 c3 c7 c4
     go_wp2_with fail
     refine (W.out _ ((Below.refl _ _).alloc (i8 _) _)).mono ?_;rintro e M ⟨rfl,V⟩;have c8:Hid _:=V;clear V a8 e6 e0 c6
     go_wp2_with fail
     have hA:Below wr.heap.size wr M:=((Below.refl _ _).alloc (i8 _) _).trans (c8.out.mono (by simp));exact⟨⟨i,j+1,U,rfl,by go_num,HC.out.trans (aM.of_below _ hA) (fun b y=>.inl y),io J.out hA,HK.out.skip f3 HQ.out⟩,by simp[intOf];omega⟩
   ·obtain rfl:j=rows.length:=by omega
    have Y:∀k,k<rows.length*4->(wr.cell? ⟨b,k,none⟩).isSome=true/\wr.frozen? ⟨b,k,none⟩=false:=fun k hk=>by obtain⟨q1,q2⟩:=gm J.out (i:=k / 4) (j:=k % 4) (by omega) (by omega);rw[show k / 4*4+k % 4=k from by omega] at q1 q2;exact⟨by rw[q1];rfl,q2⟩
    have c5:oL.cells.size=4:=rfl;have i4:∀ty,(Builtin.clear_ #[34] ty #[.slice (some ⟨b,i*4,none⟩) (rows.length - i) (cap - i)]).run f8 wr=.ok (.tuple #[]) (wr.setCells b (i*4) (Builtin.zeroCells oL.cells (rows.length - i)).toList):=fun ty =>
     Pv wr _ _ ty oL Tryz.underlying34 Tv (fun u hu=>by simp[Value.cells] at hu;subst hu;rfl) b (i*4) _ _ (by omega) (by decide)
      (fun k hk=>(Y (i*4+k) (by rw[c5] at hk;omega)).1) (fun k hk=>(Y (i*4+k) (by rw[c5] at hk;omega)).2)
    have m4:Hid _:=i4;have b1:i<=cap:=by omega
    have b2:i<=rows.length:=by omega
    have b3:¬(cap=i):=by omega
    clear Y c5;go_wp2
    go_ret
    have h6:gE C rows=U.take i:=by have:=HK.out.done;rw[C9 (i8 _)] at this;exact this.symm
    rw[h6];obtain⟨d1,d2,d3,d4,d5⟩:=bE b (Builtin.zeroCells oL.cells (rows.length - i)).toList (i*4) wr;refine⟨_,some b,rfl,HC.out.trans ⟨d1,d2,d3,D5 d4.symm,fun k hk c1=>d5 k (fun e=>c1 (by rw[e]))⟩ (fun b y=>.inl y),?_,fun b y=>.inl y⟩;rcases zX J.out with⟨h0,_⟩ | ⟨b',cap',arr',y,hu,hle',h63',hh',hs',hc'⟩
    ·cases h0
    ·injection y with y
     subst y;injection hu with _ _ hu2
     subst hu2;obtain⟨k3,a1,a2,a3,a4⟩:=bP b 93 (0,0) (Builtin.zeroCells oL.cells (rows.length - i)).toList (i*4) wr arr' hh' (by
      have:(Builtin.zeroCells oL.cells (rows.length - i)).toList.length=(rows.length - i)*4:=by simp[size_zeroCells,show oL.cells.size=4 from rfl]
      rw[this,hs'];omega)
     have hl:(U.take i).length=i:=by rw[w5];omega
     have:=Va (rows:=U.take i) a1 (by rw[a2,hs']) (by omega) h63' (fun k m hk hm=>by rw[hl] at hk;rw[g4,u9,m6 hk,<- g4];rw[a3 _ (.inl (by omega))];exact hc' k m (by omega) hm)
     rwa [hl] at this
set_option maxRecDepth 4096
set_option maxHeartbeats 1000000
abbrev xW:=find []
theorem FL:av f8 xW:=al (fN)
abbrev yo:=[0,1,2,3]
theorem GH(N:Nat)(p q:b8):bf f8 xW N yo Tryz.f194 rb [⟨ag dG,p⟩,⟨.one (.c (.cptr [si] 0)),q⟩]=some (bo,
 ob ((gd p 0).int==(gd ((gd q 0).rows.getD 0 []) 0).int)):=by kernel_rfl
def lA(p q:b8):Bool:=
 (gd p 0).int==(gd ((gd q 0).rows.getD 0 []) 0).int
def zg:Ent:=(194,e2 (ag dG) (.one (.c (.cptr [si] 0))) fun p q=>(⟨rb,[.b (lA p [gd q 0])]⟩,true))
theorem tG:ay f8 zg:=bm fun p q h=>au (N:=0) (ks:=yo) FL Tryz.func194 fun hw=>by
 rw[GH]
 try simp only[er,ez,eo]
 rfl
abbrev ZU:=find [zg]
abbrev Zm:=[0,1,4,5,7,8,9,16]
def Fb(N:Nat)(p q:b8):b8->Out:=bb f8 ZU N Zm Tryz.f234 ri [⟨sd (.sl 93),p⟩,⟨.one (.c (.fn 194 [.cptr [si] 0])),q⟩] 0
theorem aco(N:Nat)(p q:b8)(y J O M x4:D):(Fb N p q) [y,J,O,M,x4] =
 bif ltI x4.int M.int then nd (ah x4.int y.rows.length) (bif lA (sub (y.rows.getD x4.int.toNat []) 0 4) [gd (J.rows.getD 0 []) 0] then some (1,[x4])
 else nx [y,J,O,M,.i (w64 (x4.int+1))])
 else ex 0 [y,J,O,M,x4]:=by kernel_rfl
theorem aiw(N:Nat)(p q:b8):bf f8 ZU N Zm Tryz.f234 ri [⟨sd (.sl 93),p⟩,⟨.one (.c (.fn 194 [.cptr [si] 0])),q⟩]=some (bo,
 (let y:=aX (Fb N p q) N [gd p 0,gd q 0,.i 0,.i ((gd p 0).rows.length:Int),.i 0]
  nd y.isSome (bif y.code==1 then some (1,y.pay)
  else nd (y.code==2) (oi (-1))))):=by kernel_rfl
def CM(c:D)(r:b8):Bool:=lA r [gd (c.rows.getD 0 []) 0]
def alm:Ent:=(234,e2 (sd (.sl 93)) (.one (.c (.fn 194 [.cptr [si] 0]))) fun p q=>(⟨ri,[.i (ixF (fun k=>CM (gd q 0) (sub ((gd p 0).rows.getD k []) 0 4)) 0 (gd p 0).rows.length)]⟩,true))
theorem ahB:ay f8 alm:=bm fun p q h=>au (N:=(gd p 0).rows.length+1) (ks:=Zm) (al (fC ⟨tG,fN⟩)) Tryz.func234 fun hw=>by
 rw[aiw];have hl:=fi (hw ⟨sd (.sl 93),p⟩ (by simp));have e:=iq (L:=Fb ((gd p 0).rows.length+1) p q) (fun k => [gd p 0,gd q 0,.i 0,.i ((gd p 0).rows.length:Int),.i (k:Int)]) (gd p 0).rows.length (fun k=>CM (gd q 0) (sub ((gd p 0).rows.getD k []) 0 4)) [gd p 0,gd q 0,.i 0,.i ((gd p 0).rows.length:Int),.i ((gd p 0).rows.length:Int)] (fun k hk=>?_) ?_ (gd p 0).rows.length 0 ((gd p 0).rows.length+1) (by omega) (by omega)
 ·simp only[j9] at e;rw[e];have y:=gT (fun k=>CM (gd q 0) (sub ((gd p 0).rows.getD k []) 0 4)) (gd p 0).rows.length 0;cases J:decide (ixF (fun k=>CM (gd q 0) (sub ((gd p 0).rows.getD k []) 0 4)) 0 (gd p 0).rows.length>=0)
  ·rw[y J];rfl
  ·rfl
 ·show Fb _ p q [_,_,_,_,.i (k:Int)]=_;rw[aco];simp only[aA,di hk,bu hk,aG hk hl,g8];unfold CM;cases lA (sub ((gd p 0).rows.getD k []) 0 4) [gd ((gd q 0).rows.getD 0 []) 0] <;> rfl
 ·show Fb _ p q [_,_,_,.i ((gd p 0).rows.length:Int),.i ((gd p 0).rows.length:Int)]=_;rw[aco];simp only[aA,ca]
set_option maxRecDepth 100000
set_option maxHeartbeats 4000000
def ZC(x c:D):D:=.l (gE (fun r=>CM c (sub r 0 4)) x.rows)
def Sd:Ent:=(164,e2 (sd (.sl 93)) (.one (.c (.fn 194 [.cptr [si] 0]))) fun p q=>(⟨.tup [.agg [.any]],[ZC (gd p 0) (gd q 0)]⟩,true))
theorem WY:ay f8 Sd:=bm fun p q h=>by
 refine aJ.ofK rfl ⟨cB Tryz.func164 (by kernel_rfl) (by kernel_rfl),fun e x rest row U Z b1 w prot u B vs hO hB a7 a2 b3=>?_⟩;injection U with U hre
 injection U with U hp
 injection U with U
 injection U with U
 injection U with U
 injection U with U
 subst U hre;have hx:gd p 0=x:=by rw[hp];rfl
 rw[show br f8 93=some (oF 4) from by kernel_rfl] at Z;injection Z with Z
 subst Z;obtain⟨f0,a8,V,b0,a3,a6⟩:∃f0,vs = #[f0]/\∃V:Array Value,f0=.func (.func 194) #[] V/\V.size=1/\∀y,aM w y B->(∃z,V[0]?=some z/\iV f8 y (g0 y.heap.size prot) y.heap.size [si] 0 (gd ((gd q 0).rows.getD 0 []) 0) z):=by
  have hg:=fun y (hC:aM w y B)=>(a2 y hC).2 0 _ rfl
  obtain⟨f0,h1,V,h2,h3,h4⟩:=hg w (aM.refl w B);refine⟨f0,pX (a2 w (aM.refl w B)) [f0] rfl fun j t u' M hu=>?_,V,h2,h3,fun y hC=>?_⟩
  ·match j,M with
   | 0,_=>rw[h1] at hu;injection hu with hu;rw[<- hu];rfl
  ·obtain⟨f1,k1,fb,k2,k3,k4⟩:=hg y hC;rw[h1] at k1;injection k1 with k1;subst k1;rw[h2] at k2;injection k2 with _ _ k2;subst k2;exact k4 0 _ rfl
 subst a8 b0
 let C:b8->Bool:=fun r=>CM (gd q 0) (sub r 0 4)
 have a1:∀y a0,aM w y B->∃z,V[0]?=some z/\iV f8 y (g0 y.heap.size a0) y.heap.size [si] 0 (gd ((gd q 0).rows.getD 0 []) 0) z:=by
  intro y a0 hC;obtain⟨z,h1,b,o,h2,h3,h4⟩:=a6 y hC;refine⟨z,h1,b,o,h2,h3,fun j s O=>?_⟩;obtain⟨u',k1,k2⟩:=h4 j s O;have a5:s=si:=by
   match j,O with
   | 0,O=>injection O with O;exact O.symm
  subst a5;exact⟨u',k1,by cases k2;exact .int _ _⟩
 have b2:V.toList.length=1:=by simpa using a3
 have a4:=qr hO 194 V C (fun r=>rfl) (cB Tryz.func194) ?_ ?_
 ·show Calls _ _ #[u,.func (.func 194) #[] V] w fun ex w'=>∃v' B',ex=.returned v'/\aM w w' B/\eh w' _ _ (gE C (gd p 0).rows) v' B'/\_
  rw[hx];exact a4
 ·-- the search
  have O:=ahB [⟨sd (.sl 93),[x]⟩,⟨.one (.c (.fn 194 [.cptr [si] 0])),q⟩] ⟨ri,[.i (ixF (fun k=>C (x.rows.getD k [])) 0 x.rows.length)]⟩ rfl;have O:=(O.n rfl).2 w (fun b=>if B=some b then x.rows.length*4 else prot b) #[u,.func (.func 194) #[] V] ⟨rfl,fun j t M=>?_⟩ (fun b hb=>?_)
  ·refine O.mono ?_;rintro ex w' ⟨v',g',rfl,hR⟩;have hv:VD f8 w' g'.prot (.int .i64) (.i (ixF (fun k=>C (x.rows.getD k [])) 0 x.rows.length)) v':=hR.val;cases hv;exact⟨rfl,hR.below⟩
  ·match j,M with
   | 0,M =>
    injection M with M;subst M
    refine⟨u,rfl,?_⟩;have:=Gk (P:=f8) (z:=x) (show br f8 93=some (oF 4) from by kernel_rfl) hO;exact this.mono fun b o z h1 h2=>⟨h2,by
     change o<(if B=some b then x.rows.length*4 else 0) at h1;show o<(if B=some b then x.rows.length*4 else prot b)
     split at h1
     ·rw[m6 ‹_›];exact h1
     ·omega⟩
   | 1,M =>
    injection M with M;subst M
    refine⟨_,rfl,V,rfl,a3,fun j c hc=>?_⟩
    match j,hc with
    | 0,hc =>
     injection hc with hc;subst hc
     exact a1 w _ (aM.refl w B)
  ·show (if B=some b then _ else prot b)=0;rw[j7 (fun e=>by have:=uC hO b e;omega)];exact a7 b hb
 ·intro y x0 x1 Y W hC;have O:=tG [⟨ag dG,[.i x0,.i x1,.i Y,.i W]⟩,⟨.one (.c (.cptr [si] 0)),[gd ((gd q 0).rows.getD 0 []) 0]⟩] ⟨rb,[.b (C [.i x0,.i x1,.i Y,.i W])]⟩ rfl;have O:=(O.n rfl).2 y (fun _=>0) (#[.agg #[.int .i64 x0,.int .i64 x1,.int .i64 Y,.int .i64 W]]++V) ⟨by rw[D2,a3];rfl,fun j t M=>?_⟩ (fun b hb=>rfl)
  ·refine O.mono ?_;rintro ex w' ⟨v',g',rfl,hR⟩;have hv:VD f8 w' g'.prot .bool (.b (C [.i x0,.i x1,.i Y,.i W])) v':=hR.val;cases hv;exact⟨rfl,hR.below⟩
  ·match j,M with
   | 0,M =>
    injection M with M;subst M
    refine⟨.agg #[.int .i64 x0,.int .i64 x1,.int .i64 Y,.int .i64 W],v5 (xs:= #[Value.agg #[.int .i64 x0,.int .i64 x1,.int .i64 Y,.int .i64 W]]) (i:=0) (by show 0<1;omega),#[.int .i64 x0,.int .i64 x1,.int .i64 Y,.int .i64 W],rfl,rfl,fun j cc J=>?_⟩
    match j,J with
    | 0,J=>injection J with J;subst J;exact⟨_,rfl,.int .i64 (.i x0)⟩
    | 1,J=>injection J with J;subst J;exact⟨_,rfl,.int .i64 (.i x1)⟩
    | 2,J=>injection J with J;subst J;exact⟨_,rfl,.int .i64 (.i Y)⟩
    | 3,J=>injection J with J;subst J;exact⟨_,rfl,.int .i64 (.i W)⟩
   | 1,M =>
    injection M with M;subst M
    obtain⟨z,h1,h2⟩:=a1 y (fun _=>0) hC;refine⟨z,?_,h2⟩;exact (D7 (xs:= #[Value.agg #[.int .i64 x0,.int .i64 x1,.int .i64 Y,.int .i64 W]]) (i:=1) (by show 1<=1;omega)).trans h1
set_option maxRecDepth 4096
set_option maxHeartbeats 1000000
abbrev Ev:=find [ng,nP,Sd]
abbrev FK:=[0,1,3,4,7]
theorem No(N:Nat)(p q:b8):bf f8 Ev N FK Tryz.f78 (.one (.c (.own (0,0) true 93))) [⟨sd (.sl 93),p⟩,⟨ri,q⟩]=some (bo,
 bif !(aY (gd p 0)) then some (1,[.l []])
 else nd (leI ((gd p 0).rows.length:Int) 2000000) (some (1,[ZC (.l (gd p 0).rows) (.l [[.l [[gd q 0]]]])]))):=by kernel_rfl
def li(z n:D):D:=bif aY z then ZC (.l z.rows) (.l [[.l [[n]]]]) else .l []
def Ua:Ent:=(78,e2 (sd (.sl 93)) ri fun p q=>(⟨.one (.c (.own (0,0) true 93)),[li (gd p 0) (gd q 0)]⟩,true))
theorem Pf:ay f8 Ua:=bm fun p q h=>au (N:=0) (ks:=FK) (al (fC ⟨lP,fC ⟨nO,fC ⟨WY,fN⟩⟩⟩)) Tryz.func78 fun hw=>by
 rw[No];refine congrArg (fun x=>some (bo,x)) ?_;show _=some (1,[li (gd p 0) (gd q 0)]);unfold li;cases h1:aY (gd p 0) with
 | false=>rfl
 | true =>rw[show leI ((gd p 0).rows.length:Int) 2000000=true from bi (by have y:((gd p 0).rows.length:Int)<=40:=i7 ((a9 _ _).mp h1).2;omega)];rfl
abbrev NY:=find [kU,pR,fD]
abbrev Me:=[0,1,2,3,5,6,7,21]
theorem UK(N:Nat)(p q r:b8):bf f8 NY N Me Tryz.f59 ri [⟨ag aR,p⟩,⟨ri,q⟩,⟨ag aI,r⟩]=some (bo,
 bif !(aW (sub p 0 9)) then oi 1
 else bif !(inB (gd q 0).int 1 1000000) then oi 1
 else bif !(ax (sub r 0 2)) then oi 1
 else bif ltI (gd q 0).int (gd p 8).int then oi 2
 else oi 0):=by kernel_rfl
def aV(p q r:b8):Int:=
 bif !(aW (sub p 0 9)) then 1
 else bif !(inB (gd q 0).int 1 1000000) then 1
 else bif !(ax (sub r 0 2)) then 1
 else bif ltI (gd q 0).int (gd p 8).int then 2
 else 0
def rq:Ent:=(59,e3 (ag aR) ri (ag aI) fun p q r=>(⟨ri,[.i (aV p [gd q 0] r)]⟩,true))
theorem pE:ay f8 rq:=gW fun p q r h=>au (N:=0) (ks:=Me) (al (fC ⟨jR,fC ⟨nk,fC ⟨eA,fN⟩⟩⟩)) Tryz.func59 fun hw=>by
 rw[UK]
 try simp only[er,ez,eo]
 rfl
abbrev Sz:=find [qm,abb]
abbrev SI:=[0,1,2,4]
theorem Wr(N:Nat)(p q:b8):bf f8 Sz N SI Tryz.f110 rb [⟨ag aR,p⟩,⟨ri,q⟩]=some (bo,
 nd (leI ((gd p 5).rows.length:Int) 1000000000) (ob (aC (aF (gd p 5)) (gd q 0).int))):=by kernel_rfl
def SR:Ent:=(110,e2 (ag aR) ri fun p q=>(⟨rb,[.b (aC (aF (gd p 5)) (gd q 0).int)]⟩,leI ((gd p 5).rows.length:Int) 1000000000))
theorem Xh:ay f8 SR:=bm fun p q h=>au (N:=0) (ks:=SI) (al (fC ⟨np,fC ⟨He,fN⟩⟩)) Tryz.func110 fun hw=>by rw[Wr];have h:leI ((gd p 5).rows.length:Int) 1000000000=true:=h;rw[h];rfl
abbrev BW:=find []
theorem Qq:av f8 BW:=al (fN)
abbrev BQ:=[0,1,2,4,5,10,20]
def nU(N:Nat)(p q:b8):b8->Out:=bb f8 BW N BQ Tryz.f66 rb [⟨ag aR,p⟩,⟨ri,q⟩] 0
theorem JP(N:Nat)(p q:b8)(x0 x1 x2 x3 x4 x5 x6 x7 x8 x9 Y O y W a1 V a0 a2 J M Z U:D):(nU N p q) [x0,x1,x2,x3,x4,x5,x6,x7,x8,x9,Y,O,y,W,a1,V,a0,a2,J,M,Z,U] =
 bif ltI y.int (J.rows.length:Int) then nd (ah y.int J.rows.length) (bif (gd (J.rows.getD y.int.toNat []) 0).int==x9.int then ob true
 else nx [x0,x1,x2,x3,x4,x5,x6,x7,x8,x9,Y,O,.i (w64 (y.int+1)),W,a1,V,a0,a2,J,M,Z,U])
 else ex 0 [x0,x1,x2,x3,x4,x5,x6,x7,x8,x9,Y,O,y,W,a1,V,a0,a2,J,M,Z,U]:=by kernel_rfl
theorem Up(N:Nat)(p q:b8):bf f8 BW N BQ Tryz.f66 rb [⟨ag aR,p⟩,⟨ri,q⟩]=some (bo,
 (let y:=aX (nU N p q) N [gd p 0,gd p 1,gd p 2,gd p 3,gd p 4,gd p 5,gd p 6,gd p 7,gd p 8,gd q 0,.i 0,.i 0,.i 0,gd p 0,gd p 1,gd p 2,gd p 3,gd p 4,gd p 5,gd p 6,gd p 7,gd p 8]
  nd y.isSome (bif y.code==1 then some (1,y.pay)
  else nd (y.code==2) (ob false)))):=by kernel_rfl
def ii(z:D)(n:Int):Bool:=(List.range z.rows.length).any fun k=>(gd (z.rows.getD k []) 0).int==n
def vW:Ent:=(66,e2 (ag aR) ri fun p q=>(⟨rb,[.b (ii (gd p 5) (gd q 0).int)]⟩,leI ((gd p 5).rows.length:Int) 1000000000))
theorem vq:ay f8 vW:=bm fun p q h=>au (N:=(gd p 5).rows.length+1) (ks:=BQ) Qq Tryz.func66 fun hw=>by
 rw[Up];have h:leI ((gd p 5).rows.length:Int) 1000000000=true:=h;have y:((gd p 5).rows.length:Int)<=1000000000:=i7 h;have e:=Wo (L:=nU ((gd p 5).rows.length+1) p q) (fun k => [gd p 0,gd p 1,gd p 2,gd p 3,gd p 4,gd p 5,gd p 6,gd p 7,gd p 8,gd q 0,.i 0,.i 0,.i (k:Int),gd p 0,gd p 1,gd p 2,gd p 3,gd p 4,gd p 5,gd p 6,gd p 7,gd p 8]) (gd p 5).rows.length (fun k=>(gd ((gd p 5).rows.getD k []) 0).int==(gd q 0).int) [.b true] 0 (fun k hk=>?_) ?_ (N:=(gd p 5).rows.length+1) (by omega)
 ·simp only[j9] at e;rw[e];show some (bo,_)=some (bo,some (1,[D.b (ii (gd p 5) (gd q 0).int)]));unfold ii;cases (List.range (gd p 5).rows.length).any fun k=>(gd ((gd p 5).rows.getD k []) 0).int==(gd q 0).int <;> rfl
 ·show nU _ p q [_,_,_,_,_,_,_,_,_,_,_,_,.i (k:Int),_,_,_,_,_,_,_,_,_]=_;rw[JP];simp only[aA,di hk,bu hk,aG hk (show (gd p 5).rows.length<=9223372036854775807 by omega),g8];cases (gd ((gd p 5).rows.getD k []) 0).int==(gd q 0).int <;> rfl
 ·show nU _ p q [_,_,_,_,_,_,_,_,_,_,_,_,.i ((gd p 5).rows.length:Int),_,_,_,_,_,_,_,_,_]=_;rw[JP];simp only[aA,ca]
abbrev BS:=find []
theorem Ri:av f8 BS:=al (fN)
abbrev Ck:=[0,1,2,6,7,8,13,24]
def nS(N:Nat)(p q r:b8):b8->Out:=bb f8 BS N Ck Tryz.f144 (.one (.c (.d (.sl 93)))) [⟨sd (.sl 93),p⟩,⟨ri,q⟩,⟨rb,r⟩] 0
theorem JX(N:Nat)(p q r:b8)(y M O U x4 J:D):(nS N p q r) [y,M,O,U,x4,J] =
 bif ltI J.int (y.rows.length:Int) then nd (ah J.int y.rows.length) (bif ((gd (y.rows.getD J.int.toNat []) 0).int==M.int)==O.bool then nd (ah J.int y.rows.length) (nd (bl (x4.rows ++ [sub (y.rows.getD J.int.toNat []) 0 4])&&true) (nx [y,M,O,U,.l (x4.rows ++ [sub (y.rows.getD J.int.toNat []) 0 4]),.i (w64 (J.int+1))]))
 else nx [y,M,O,U,x4,.i (w64 (J.int+1))])
 else ex 0 [y,M,O,U,x4,J]:=by kernel_rfl
theorem UI(N:Nat)(p q r:b8):bf f8 BS N Ck Tryz.f144 (.one (.c (.d (.sl 93)))) [⟨sd (.sl 93),p⟩,⟨ri,q⟩,⟨rb,r⟩]=some (bo,
 (let y:=aX (nS N p q r) N [gd p 0,gd q 0,gd r 0,.l [],.l [],.i 0]
  nd y.isSome (nd (y.code==2) (some (1,[gd y.pay 4]))))):=by kernel_rfl
def kpL(C:Nat->Bool)(f:Nat->b8):Nat->List b8
 | 0 => []
 | k+1=>bif C k then kpL C f k ++ [f k] else kpL C f k
theorem jy(C:Nat->Bool)(f:Nat->b8):∀k,(kpL C f k).length<=k
 | 0=>i8 _
 | k+1=>by have:=jy C f k;rw[kpL];cases C k <;> simp <;> omega
def po(z:D)(n:Int)(own:Bool):D:=.l (kpL (fun k=>((gd (z.rows.getD k []) 0).int==n)==own) (fun k=>sub (z.rows.getD k []) 0 4) z.rows.length)
def CR:Ent:=(144,e3 (sd (.sl 93)) ri rb fun p q r=>(⟨.one (.c (.d (.sl 93))),[po (gd p 0) (gd q 0).int (gd r 0).bool]⟩,leI ((gd p 0).rows.length:Int) 1000000000))
theorem DK:ay f8 CR:=gW fun p q r h=>au (N:=(gd p 0).rows.length+1) (ks:=Ck) Ri Tryz.func144 fun hw=>by
 rw[UI];have h:leI ((gd p 0).rows.length:Int) 1000000000=true:=h;have J:((gd p 0).rows.length:Int)<=1000000000:=i7 h;have e:=cJ (L:=nS ((gd p 0).rows.length+1) p q r) (fun k => [gd p 0,gd q 0,gd r 0,.l [],.l (kpL (fun k=>((gd ((gd p 0).rows.getD k []) 0).int==(gd q 0).int)==(gd r 0).bool) (fun k=>sub ((gd p 0).rows.getD k []) 0 4) k),.i (k:Int)]) (gd p 0).rows.length 0 (fun k hk=>?_) ?_ (N:=(gd p 0).rows.length+1) (by omega)
 ·simp only[j9] at e;rw[kpL] at e;rw[e];rfl
 ·show nS _ p q r [_,_,_,_,_,.i (k:Int)]=_;rw[JX];have y:=jy (fun k=>((gd ((gd p 0).rows.getD k []) 0).int==(gd q 0).int)==(gd r 0).bool) (fun k=>sub ((gd p 0).rows.getD k []) 0 4) k;simp only[aA,bd,di hk,bu hk,g8,aG hk (by omega),ci (show (kpL (fun k=>((gd ((gd p 0).rows.getD k []) 0).int==(gd q 0).int)==(gd r 0).bool) (fun k=>sub ((gd p 0).rows.getD k []) 0 4) k ++ [sub ((gd p 0).rows.getD k []) 0 4]).length<=4294967296 by rw[i6];show _+1<=_;omega)];simp only[kpL];cases ((gd ((gd p 0).rows.getD k []) 0).int==(gd q 0).int)==(gd r 0).bool <;> rfl
 ·show nS _ p q r [_,_,_,_,_,.i ((gd p 0).rows.length:Int)]=_;rw[JX];simp only[aA,ca]
abbrev Cc:=find [kH,fD,pR]
abbrev Bz:=[0,1,2,4,6,7,8,21,36]
def lf(N:Nat)(p q r:b8):b8->Out:=bb f8 Cc N Bz Tryz.f189 (.one (.c (.d (.sl 108)))) [⟨sd (.sl 108),p⟩,⟨ag aI,q⟩,⟨rb,r⟩] 0
theorem zm(N:Nat)(p q r:b8)(y V W U x4 Y x6 J M O:D):(lf N p q r) [y,V,W,U,x4,Y,x6,J,M,O] =
 bif ltI J.int (y.rows.length:Int) then bif aN y then bif ax [M,O] then nd (ah J.int y.rows.length) (bif (inB (gd (y.rows.getD J.int.toNat []) 0).int M.int (w64 (O.int - 1)))==U.bool then nd (ah J.int y.rows.length) (nd (bl (x6.rows ++ [sub (y.rows.getD J.int.toNat []) 0 2])&&true) (nx [y,V,W,U,x4,Y,.l (x6.rows ++ [sub (y.rows.getD J.int.toNat []) 0 2]),.i (w64 (J.int+1)),M,O]))
 else nx [y,V,W,U,x4,Y,x6,.i (w64 (J.int+1)),M,O])
 else ex 0 [y,V,W,U,x4,Y,x6,J,M,O]
 else ex 0 [y,V,W,U,x4,Y,x6,J,M,O]
 else ex 0 [y,V,W,U,x4,Y,x6,J,M,O]:=by kernel_rfl
theorem UJ(N:Nat)(p q r:b8):bf f8 Cc N Bz Tryz.f189 (.one (.c (.d (.sl 108)))) [⟨sd (.sl 108),p⟩,⟨ag aI,q⟩,⟨rb,r⟩]=some (bo,
 (let y:=aX (lf N p q r) N [gd p 0,gd q 0,gd q 1,gd r 0,.i 0,.l [],.l [],.i 0,gd q 0,gd q 1]
  nd y.isSome (nd (y.code==2) (some (1,[gd y.pay 6]))))):=by kernel_rfl
def pk(z:D)(a:b8)(inn:Bool):D:=.l (bif aN z&&ax (sub a 0 2) then kpL (fun k=>(inB (gd (z.rows.getD k []) 0).int (gd a 0).int (w64 ((gd a 1).int - 1)))==inn) (fun k=>sub (z.rows.getD k []) 0 2) z.rows.length else[])
def BK:Ent:=(189,e3 (sd (.sl 108)) (ag aI) rb fun p q r=>(⟨.one (.c (.d (.sl 108))),[pk (gd p 0) q (gd r 0).bool]⟩,leI ((gd p 0).rows.length:Int) 1000000000))
theorem Fu:ay f8 BK:=gW fun p q r h=>au (N:=(gd p 0).rows.length+1) (ks:=Bz) (al (fC ⟨jC,fC ⟨eA,fC ⟨nk,fN⟩⟩⟩)) Tryz.func189 fun hw=>by
 rw[UJ];have h:leI ((gd p 0).rows.length:Int) 1000000000=true:=h;have O:((gd p 0).rows.length:Int)<=1000000000:=i7 h;cases y:aN (gd p 0)&&ax (sub q 0 2) with
 | true =>
  obtain⟨h1,J⟩:=(a9 _ _).mp y;have J:ax [gd q 0,gd q 1]=true:=J;have e:=cJ (L:=lf ((gd p 0).rows.length+1) p q r) (fun k => [gd p 0,gd q 0,gd q 1,gd r 0,.i 0,.l [],.l (kpL (fun k=>(inB (gd ((gd p 0).rows.getD k []) 0).int (gd q 0).int (w64 ((gd q 1).int - 1)))==(gd r 0).bool) (fun k=>sub ((gd p 0).rows.getD k []) 0 2) k),.i (k:Int),gd q 0,gd q 1]) (gd p 0).rows.length 0 (fun k hk=>?_) ?_ (N:=(gd p 0).rows.length+1) (by omega)
  ·simp only[j9] at e;rw[kpL] at e;rw[e];show some (bo,some (1,[D.l _]))=some (bo,some (1,[pk (gd p 0) q (gd r 0).bool]));unfold pk;rw[y];rfl
  ·show lf _ p q r [_,_,_,_,_,_,_,.i (k:Int),_,_]=_;rw[zm];have M:=jy (fun k=>(inB (gd ((gd p 0).rows.getD k []) 0).int (gd q 0).int (w64 ((gd q 1).int - 1)))==(gd r 0).bool) (fun k=>sub ((gd p 0).rows.getD k []) 0 2) k;simp only[aA,bd,di hk,h1,J,g6,bu hk,g8,aG hk (show (gd p 0).rows.length<=9223372036854775807 by omega),ci (show (kpL (fun k=>(inB (gd ((gd p 0).rows.getD k []) 0).int (gd q 0).int (w64 ((gd q 1).int - 1)))==(gd r 0).bool) (fun k=>sub ((gd p 0).rows.getD k []) 0 2) k ++ [sub ((gd p 0).rows.getD k []) 0 2]).length<=4294967296 by rw[i6];show _+1<=_;omega)];simp only[kpL];cases (inB (gd ((gd p 0).rows.getD k []) 0).int (gd q 0).int (w64 ((gd q 1).int - 1)))==(gd r 0).bool <;> rfl
  ·show lf _ p q r [_,_,_,_,_,_,_,.i ((gd p 0).rows.length:Int),_,_]=_;rw[zm];simp only[aA,ca]
 | false =>
  have e:lf ((gd p 0).rows.length+1) p q r [gd p 0,gd q 0,gd q 1,gd r 0,.i 0,.l [],.l [],.i 0,gd q 0,gd q 1]=some (2,[gd p 0,gd q 0,gd q 1,gd r 0,.i 0,.l [],.l [],.i 0,gd q 0,gd q 1]):=by
   rw[zm];have y:(aN (gd p 0)&&ax [gd q 0,gd q 1])=false:=y;cases hz:ltI (D.i 0).int ((gd p 0).rows.length:Int) with
   | false=>rfl
   | true =>
    cases h1:aN (gd p 0) with
    | false=>rfl
    | true =>rw[h1,y7] at y;rw[y];rfl
  rw[lZ (c:=1) e];show some (bo,some (1,[D.l []]))=some (bo,some (1,[pk (gd p 0) q (gd r 0).bool]));unfold pk;rw[y];rfl
abbrev Gw:=find [BK]
abbrev FP:=[0,1,3,4]
theorem PE(N:Nat)(p q:b8):bf f8 Gw N FP Tryz.f68 (.one (.c (.d (.sl 108)))) [⟨sd (.sl 108),p⟩,⟨ag aI,q⟩]=some (bo,
 nd (leI ((gd p 0).rows.length:Int) 1000000000) (some (1,[pk (gd p 0) (sub q 0 2) true]))):=by kernel_rfl
def uS:Ent:=(68,e2 (sd (.sl 108)) (ag aI) fun p q=>(⟨.one (.c (.d (.sl 108))),[pk (gd p 0) q true]⟩,leI ((gd p 0).rows.length:Int) 1000000000))
theorem yM:ay f8 uS:=bm fun p q h=>au (N:=0) (ks:=FP) (al (fC ⟨Fu,fN⟩)) Tryz.func68 fun hw=>by rw[PE];have h:leI ((gd p 0).rows.length:Int) 1000000000=true:=h;rw[h];rfl
abbrev Hp:=find []
theorem UD:av f8 Hp:=al (fN)
abbrev GX:=[0,1,4,5,6,7,12,24,34,43,3000002,3000008]
def eV(N:Nat)(p q:b8):b8->Out:=bb f8 Hp N GX Tryz.f146 (.one (.c (.d (.sl 3)))) [⟨sd (.sl 3),p⟩,⟨ri,q⟩] 0
theorem NS(N:Nat)(p q:b8)(J O V U x4 M:D):(eV N p q) [J,O,V,U,x4,M] =
 bif ltI M.int (J.rows.length:Int) then bif !x4.bool then nd (ah M.int J.rows.length) (bif leI O.int (gd (J.rows.getD M.int.toNat []) 0).int then nd (bl (U.rows ++ [[O]])&&true) ((let y:Out:=nx [J,O,V,.l (U.rows ++ [[O]]),.b true,M,.b (ltI M.int (J.rows.length:Int)),.b (leI O.int (gd (J.rows.getD M.int.toNat []) 0).int)]
  nd y.isSome (nd (ah (gd y.pay 5).int (gd y.pay 0).rows.length) (bif (gd ((gd y.pay 0).rows.getD (gd y.pay 5).int.toNat []) 0).int != (gd y.pay 1).int then nd (ah (gd y.pay 5).int (gd y.pay 0).rows.length) (nd (bl ((gd y.pay 3).rows ++ [[gd ((gd y.pay 0).rows.getD (gd y.pay 5).int.toNat []) 0]])&&true) (nx [gd y.pay 0,gd y.pay 1,gd y.pay 2,.l ((gd y.pay 3).rows ++ [[gd ((gd y.pay 0).rows.getD (gd y.pay 5).int.toNat []) 0]]),gd y.pay 4,.i (w64 ((gd y.pay 5).int+1))]))
  else nx [gd y.pay 0,gd y.pay 1,gd y.pay 2,gd y.pay 3,gd y.pay 4,.i (w64 ((gd y.pay 5).int+1))]))))
 else nd (ah M.int J.rows.length) (bif (gd (J.rows.getD M.int.toNat []) 0).int != O.int then nd (ah M.int J.rows.length) (nd (bl (U.rows ++ [[gd (J.rows.getD M.int.toNat []) 0]])&&true) (nx [J,O,V,.l (U.rows ++ [[gd (J.rows.getD M.int.toNat []) 0]]),x4,.i (w64 (M.int+1))]))
 else nx [J,O,V,U,x4,.i (w64 (M.int+1))]))
 else nd (ah M.int J.rows.length) (bif (gd (J.rows.getD M.int.toNat []) 0).int != O.int then nd (ah M.int J.rows.length) (nd (bl (U.rows ++ [[gd (J.rows.getD M.int.toNat []) 0]])&&true) (nx [J,O,V,.l (U.rows ++ [[gd (J.rows.getD M.int.toNat []) 0]]),x4,.i (w64 (M.int+1))]))
 else nx [J,O,V,U,x4,.i (w64 (M.int+1))])
 else ex 0 [J,O,V,U,x4,M]:=by kernel_rfl
theorem Xn(N:Nat)(p q:b8):bf f8 Hp N GX Tryz.f146 (.one (.c (.d (.sl 3)))) [⟨sd (.sl 3),p⟩,⟨ri,q⟩]=some (bo,
 (let J:Out:=nx [gd p 0,gd q 0,.l [],.l [],.b false]
  nd J.isSome ((let y:=aX (eV N p q) N [gd J.pay 0,gd J.pay 1,gd J.pay 2,gd J.pay 3,gd J.pay 4,.i 0]
  nd y.isSome (nd (y.code==2) (bif !(gd y.pay 4).bool then nd (bl ((gd y.pay 3).rows ++ [[gd y.pay 1]])&&true) (some (1,[.l ((gd y.pay 3).rows ++ [[gd y.pay 1]])]))
  else some (1,[gd y.pay 3]))))))):=by kernel_rfl
def gM(z n:D):Nat->List b8 × Bool
 | 0=>([],false)
 | k+1 =>(bif (gd (z.rows.getD k []) 0).int != n.int then (bif !(gM z n k).2&&leI n.int (gd (z.rows.getD k []) 0).int then (gM z n k).1 ++ [[n]] else (gM z n k).1) ++ [[gd (z.rows.getD k []) 0]] else (bif !(gM z n k).2&&leI n.int (gd (z.rows.getD k []) 0).int then (gM z n k).1 ++ [[n]] else (gM z n k).1),(gM z n k).2||leI n.int (gd (z.rows.getD k []) 0).int)
theorem MC(z n:D):∀k,(gM z n k).1.length<=2*k
 | 0=>i8 _
 | k+1=>by have:=MC z n k;rw[gM];cases (gd (z.rows.getD k []) 0).int != n.int <;> cases (gM z n k).2 <;> cases leI n.int (gd (z.rows.getD k []) 0).int <;> simp <;> omega
def bQ(z n:D):D:=.l (bif (gM z n z.rows.length).2 then (gM z n z.rows.length).1 else (gM z n z.rows.length).1 ++ [[n]])
def up:Ent:=(146,e2 (sd (.sl 3)) ri fun p q=>(⟨.one (.c (.d (.sl 3))),[bQ (gd p 0) (gd q 0)]⟩,leI ((gd p 0).rows.length:Int) 1000000000))
theorem sA:ay f8 up:=bm fun p q h=>au (N:=(gd p 0).rows.length+1) (ks:=GX) UD Tryz.func146 fun hw=>by
 rw[Xn];have h:leI ((gd p 0).rows.length:Int) 1000000000=true:=h;have Y:((gd p 0).rows.length:Int)<=1000000000:=i7 h;have e:=cJ (L:=eV ((gd p 0).rows.length+1) p q) (fun k => [gd p 0,gd q 0,.l [],.l (gM (gd p 0) (gd q 0) k).1,.b (gM (gd p 0) (gd q 0) k).2,.i (k:Int)]) (gd p 0).rows.length 0 (fun k hk=>?_) ?_ (N:=(gd p 0).rows.length+1) (by omega)
 ·simp only[j9] at e;rw[show (gM (gd p 0) (gd q 0) 0).1 = [] from rfl,show (gM (gd p 0) (gd q 0) 0).2=false from rfl] at e;show some (bo,nd true (nd (aX (eV ((gd p 0).rows.length+1) p q) ((gd p 0).rows.length+1) [gd p 0,gd q 0,.l [],.l [],.b false,.i 0]).isSome (nd ((aX (eV ((gd p 0).rows.length+1) p q) ((gd p 0).rows.length+1) [gd p 0,gd q 0,.l [],.l [],.b false,.i 0]).code==2) (bif !(gd (aX (eV ((gd p 0).rows.length+1) p q) ((gd p 0).rows.length+1) [gd p 0,gd q 0,.l [],.l [],.b false,.i 0]).pay 4).bool then nd (bl ((gd (aX (eV ((gd p 0).rows.length+1) p q) ((gd p 0).rows.length+1) [gd p 0,gd q 0,.l [],.l [],.b false,.i 0]).pay 3).rows ++ [[gd (aX (eV ((gd p 0).rows.length+1) p q) ((gd p 0).rows.length+1) [gd p 0,gd q 0,.l [],.l [],.b false,.i 0]).pay 1]])&&true) (some (1,[.l ((gd (aX (eV ((gd p 0).rows.length+1) p q) ((gd p 0).rows.length+1) [gd p 0,gd q 0,.l [],.l [],.b false,.i 0]).pay 3).rows ++ [[gd (aX (eV ((gd p 0).rows.length+1) p q) ((gd p 0).rows.length+1) [gd p 0,gd q 0,.l [],.l [],.b false,.i 0]).pay 1]])])) else some (1,[gd (aX (eV ((gd p 0).rows.length+1) p q) ((gd p 0).rows.length+1) [gd p 0,gd q 0,.l [],.l [],.b false,.i 0]).pay 3])))))=_;rw[e];have y:=MC (gd p 0) (gd q 0) (gd p 0).rows.length;show some (bo,bif !(gM (gd p 0) (gd q 0) (gd p 0).rows.length).2 then nd (bl ((gM (gd p 0) (gd q 0) (gd p 0).rows.length).1 ++ [[gd q 0]])&&true) (some (1,[.l ((gM (gd p 0) (gd q 0) (gd p 0).rows.length).1 ++ [[gd q 0]])])) else some (1,[.l (gM (gd p 0) (gd q 0) (gd p 0).rows.length).1]))=some (bo,some (1,[bQ (gd p 0) (gd q 0)]));rw[ci (by rw[i6];show _+1<=_;omega)];unfold bQ;cases (gM (gd p 0) (gd q 0) (gd p 0).rows.length).2 <;> rfl
 ·show eV _ p q [_,_,_,_,_,.i (k:Int)]=_;rw[NS];have y:=MC (gd p 0) (gd q 0) k;have O:bl ((gM (gd p 0) (gd q 0) k).1 ++ [[gd q 0]])=true:=ci (by rw[i6];show _+1<=_;omega);have U:bl ((gM (gd p 0) (gd q 0) k).1 ++ [[gd ((gd p 0).rows.getD k []) 0]])=true:=ci (by rw[i6];show _+1<=_;omega);have M:bl ((gM (gd p 0) (gd q 0) k).1 ++ [[gd q 0]] ++ [[gd ((gd p 0).rows.getD k []) 0]])=true:=ci (by rw[i6,i6];show _+1+1<=_;omega);have hin:=bK hk;have hw:=aG hk (show (gd p 0).rows.length<=9223372036854775807 by omega);have g0:∀(a b c d e f g h:D),gd [a,b,c,d,e,f,g,h] 0=a:=fun _ _ _ _ _ _ _ _=>rfl
  simp only[aA,bd,kK,di hk,bu hk,g8,hw,O,U];rw[gM];cases W:(gM (gd p 0) (gd q 0) k).2 with
  | true =>cases J:(gd ((gd p 0).rows.getD k []) 0).int != (gd q 0).int <;> rfl
  | false =>
   cases V:leI (gd q 0).int (gd ((gd p 0).rows.getD k []) 0).int with
   | false=>cases J:(gd ((gd p 0).rows.getD k []) 0).int != (gd q 0).int <;> rfl
   | true =>show nd (ah (k:Int) (gd p 0).rows.length) (bif (gd ((gd p 0).rows.getD (k:Int).toNat []) 0).int != (gd q 0).int then nd (ah (k:Int) (gd p 0).rows.length) (nd (bl ((gM (gd p 0) (gd q 0) k).1 ++ [[gd q 0]] ++ [[gd ((gd p 0).rows.getD (k:Int).toNat []) 0]])&&true) (nx [gd p 0,gd q 0,.l [],.l ((gM (gd p 0) (gd q 0) k).1 ++ [[gd q 0]] ++ [[gd ((gd p 0).rows.getD (k:Int).toNat []) 0]]),.b true,.i (w64 ((k:Int)+1))])) else nx [gd p 0,gd q 0,.l [],.l ((gM (gd p 0) (gd q 0) k).1 ++ [[gd q 0]]),.b true,.i (w64 ((k:Int)+1))])=_;simp only[bu hk,g8,hw,M];cases J:(gd ((gd p 0).rows.getD k []) 0).int != (gd q 0).int <;> rfl
 ·show eV _ p q [_,_,_,_,_,.i ((gd p 0).rows.length:Int)]=_;rw[NS];simp only[aA,ca]
theorem Sj(z n:D):∀k,(gM z n k).1.length<=k+(gM z n k).2.toNat
 | 0=>i8 _
 | k+1=>by have:=Sj z n k;rw[gM];revert this;cases (gd (z.rows.getD k []) 0).int != n.int <;> cases (gM z n k).2 <;> cases leI n.int (gd (z.rows.getD k []) 0).int <;> simp <;> omega
theorem jq(z n:D):(bQ z n).rows.length<=z.rows.length+1:=by have:=Sj z n z.rows.length;unfold bQ;revert this;cases (gM z n z.rows.length).2 <;> simp[bd] <;> omega
theorem zH(z:D)(n:Int)(own:Bool):(po z n own).rows.length<=z.rows.length:=jy _ _ _
def gh(l w z:D):Nat->D × D
 | 0=>(l,w)
 | k+1=>(po (gh l w z k).1 (gd (z.rows.getD k []) 0).int false,bQ (gh l w z k).2 (gd (z.rows.getD k []) 0))
theorem vR(l w z:D):∀k,(gh l w z k).1.rows.length<=l.rows.length/\(gh l w z k).2.rows.length<=w.rows.length+k
 | 0=>⟨i8 _,i8 _⟩
 | k+1=>by obtain⟨h1,M⟩:=vR l w z k;have y:=zH (gh l w z k).1 (gd (z.rows.getD k []) 0).int false;have J:=jq (gh l w z k).2 (gd (z.rows.getD k []) 0);rw[gh];exact⟨by show (po _ _ _).rows.length<=_;omega,by show (bQ _ _).rows.length<=_;omega⟩
def fA(p:b8)(z:D):b8:= [gd p 0,gd p 1,gd p 2,gd p 3,(gh (gd p 4) (gd p 6) z z.rows.length).1,gd p 5,(gh (gd p 4) (gd p 6) z z.rows.length).2,gd p 7,gd p 8]
def Xc(l:List Int)(n:Int):List Int:=l.filter (fun x=>decide (x<n))++n::l.filter (fun x=>decide (n<x))
theorem yu{l:List Int}{n m:Int}:m∈Xc l n↔m=n\/m∈l:=by
 simp only[Xc,n3,B7,B5,g5];constructor
 ·rintro (h | h | h)
  ·exact .inr h.1
  ·exact .inl h
  ·exact .inr h.1
 ·rintro (h | h)
  ·exact .inr (.inl h)
  ·rcases I6 m n with h1 | h1 | h1
   ·exact .inl ⟨h,h1⟩
   ·exact .inr (.inl h1)
   ·exact .inr (.inr ⟨h,h1⟩)
theorem MT{l:List Int}(h:l.Pairwise (· < ·))(n:Int):(Xc l n).Pairwise (· < ·):=by
 unfold Xc;rw[G1,H5];refine⟨h.filter _,⟨fun a y=>?_,h.filter _⟩,fun a y b J=>?_⟩
 ·simpa using (B7.1 y).2
 ·have h1:a<n:=by simpa using (B7.1 y).2
  rcases B5.1 J with rfl | J
  ·exact h1
  ·have M:n<b:=by simpa using (B7.1 J).2
   omega
theorem Tt:∀ {a b:List Int},a.Pairwise (· < ·)->b.Pairwise (· < ·)->(∀x,x∈a↔x∈b)->a=b
 | [],[],_,_,_=>rfl
 | [],y::b,_,_,h=>absurd ((h y).2 (by simp)) (by simp)
 | x::a,[],_,_,h=>absurd ((h x).1 (by simp)) (by simp)
 | x::a,y::b,ha,hb,h=>by
  rw[H5] at ha hb;have M:x=y:=by
   have h1:=(h x).1 (by simp);have J:=(h y).2 (by simp);rcases B5.1 h1 with h1 | h1
   ·exact h1
   ·rcases B5.1 J with J | J
    ·exact J.symm
    ·have O:=hb.1 x h1;have U:=ha.1 y J;omega
  subst M;rw[Tt ha.2 hb.2 fun z=>?_];constructor
  ·intro hz;rcases B5.1 ((h z).1 (N8 _ hz)) with h1 | h1
   ·have:=ha.1 z hz;omega
   ·exact h1
  ·intro hz;rcases B5.1 ((h z).2 (N8 _ hz)) with h1 | h1
   ·have:=hb.1 z hz;omega
   ·exact h1
theorem PF{l:List Int}{k:Nat}{x:Int}(h:l[k]?=some x):l.take (k+1)=l.take k ++ [x]:=by rw[H9,h];rfl
theorem RM{z n:D}(hz:(an z).Pairwise (· < ·)):∀k,k<=z.rows.length ->
  (gM z n k).1.map (fun r=>(gd r 0).int)=((an z).take k).filter (fun x=>decide (x<n.int))++((bif (gM z n k).2 then[n.int] else[])++((an z).take k).filter (fun x=>decide (n.int<x))) /\
  (gM z n k).2=((an z).take k).any (fun x=>decide (n.int<=x))
 | 0,_=>⟨rfl,rfl⟩
 | k+1,hk=>by
  obtain⟨h1,U⟩:=RM (n:=n) hz k (by omega);have hx:=dC z k (by omega);have ht:=PF hx;have Z:∀y∈(an z).take k,y<(gd (z.rows.getD k []) 0).int:=by have hp:=hz.sublist (List.take_sublist (k+1) (an z));rw[ht,G1] at hp;exact fun y V=>hp.2.2 y V _ (by simp)
  rw[gM,ht];generalize gd (z.rows.getD k []) 0=d at *;obtain⟨S,hS⟩:∃S,S=gM z n k:=⟨_,rfl⟩;rw[<- hS] at h1 U ⊢;obtain⟨rows,O⟩:=S;generalize (an z).take k=t at *;have h1:rows.map (fun r=>(gd r 0).int)=t.filter (fun x=>decide (x<n.int))++((bif O then[n.int] else[])++t.filter (fun x=>decide (n.int<x))):=h1;have U:O=t.any (fun x=>decide (n.int<=x)):=U;show (bif d.int != n.int then (bif !O&&leI n.int d.int then rows ++ [[n]] else rows) ++ [[d]] else (bif !O&&leI n.int d.int then rows ++ [[n]] else rows)).map (fun r=>(gd r 0).int)=(t ++ [d.int]).filter _++((bif O||leI n.int d.int then[n.int] else[])++(t ++ [d.int]).filter _)/\(O||leI n.int d.int)=(t ++ [d.int]).any _;have Y:d.int<=n.int->O=false/\t.filter (fun x=>decide (n.int<x)) = []:=fun M=>by
   refine⟨?_,?_⟩
   ·rw[U,G9];intro y V;have:=Z y V;simp;omega
   ·rw[E5];intro y V;have:=Z y V;simp;omega
  have a0:O=false->t.filter (fun x=>decide (n.int<x)) = []:=fun J=>by rw[E5];intro y V;rw[J] at U;have:=G9.1 U.symm y V;simp at this ⊢;omega
  refine⟨?_,?_⟩
  ·rcases I6 d.int n.int with M | M | M
   ·obtain⟨rfl,J⟩:=Y (by omega);rw[J] at h1;have W:(d.int != n.int)=true:=by simp;omega
    rw[W,FX M];simp[aq,y8,E7,J,M,h1,show ¬n.int<d.int from by omega]
   ·obtain⟨rfl,J⟩:=Y (by omega);rw[J] at h1;have W:(d.int != n.int)=false:=by simp[M]
    rw[W,bi (show n.int<=d.int by omega)];simp[aq,y8,E7,J,h1,M]
   ·have W:(d.int != n.int)=true:=by simp;omega
    rw[W,bi (show n.int<=d.int by omega)];cases O with
    | false =>have J:=a0 rfl;rw[J] at h1;simp[aq,y8,E7,J,h1,M,show ¬d.int<n.int from by omega]
    | true=>simp[aq,y8,E7,h1,M,show ¬d.int<n.int from by omega]
  ·rw[List.any_append,<- U];simp[leI]
theorem gG{z n:D}(hz:(an z).Pairwise (· < ·)):an (bQ z n)=Xc (an z) n.int:=by
 obtain⟨h1,J⟩:=RM (n:=n) hz z.rows.length (i8 _);rw[C9 (by rw[cr];exact i8 _)] at h1 J;unfold bQ Xc;revert h1 J;cases U:(gM z n z.rows.length).2 with
 | true =>intro h1 J;show (gM z n z.rows.length).1.map _=_;rw[h1];rfl
 | false =>
  intro h1 J;have M:(an z).filter (fun x=>decide (n.int<x)) = []:=by rw[E5];intro y O;have:=G9.1 J.symm y O;simp at this ⊢;omega
  show ((gM z n z.rows.length).1 ++ [[n]]).map _=_;rw[y8,h1,M];simp[aq]
theorem Vo{z n:D}(hz:(an z).Pairwise (· < ·)):(an (bQ z n)).Pairwise (· < ·):=by rw[gG hz];exact MT hz _
def lK(z:D):Bool:=decide ((an z).Pairwise (· < ·))
theorem CE{z:D}(h:(an z).Pairwise (· < ·)):lK z=true:=B3 h
theorem PK{z:D}(h:lK z=true):(an z).Pairwise (· < ·):=i7 h
theorem aZ{l:List b8}{k:Nat}(h:k<l.length):l.getD k []=l[k]:=by simp[g4,h]
theorem Aa{l:List b8}{k:Nat}(h:k<l.length):l.take (k+1)=l.take k ++ [l.getD k []]:=by rw[H9,g9 h,aZ h];rfl
def rz(r:b8):Bool:=inB (gd r 0).int 1 60&&(ax [gd r 1,gd r 2]&&dn [gd r 3])
theorem dU(z:D):aY z=true↔(∀r∈z.rows,rz r=true)/\z.rows.Pairwise (fun a b=>cX b a=false)/\z.rows.length<=40:=by
 unfold aY;simp only[a9,i9,m7,leI,g5];constructor
 ·rintro⟨h,hl⟩;refine⟨fun r O=>?_,y6.2 fun i j hi y J=>?_,by omega⟩
  ·obtain⟨k,hk,rfl⟩:=t9 O;have:=h k hk;rw[ma,aZ hk] at this;simp only[a9] at this;simp only[rz,a9];exact⟨this.1,this.2.1,this.2.2.1⟩
  ·have:=h j y;simp only[ma,a9,o8,G9,m7,G8] at this;have:=this.2.2.2 i J
   rwa [aZ y,aZ hi] at this
 ·rintro⟨h1,M,U⟩;refine⟨fun k hk=>?_,by omega⟩;have a:=h1 _ (v6 hk);simp only[rz,a9] at a;simp only[ma,a9,o8,G9,m7,G8];rw[aZ hk];refine⟨a.1,a.2.1,a.2.2,fun j y=>?_⟩;rw[aZ (by omega)];exact y6.1 M j k (by omega) hk y
theorem OW{z:D}(h:aY z=true)(C:b8->Bool):aY (.l (z.rows.filter C))=true:=by obtain⟨h1,y,M⟩:=(dU z).1 h;refine (dU _).2 ⟨fun r J=>h1 r (B7.1 J).1,y.filter _,?_⟩;have:=N0 C z.rows;show (z.rows.filter C).length<=40;omega
theorem aaZ{z n:D}(h:aY z=true):(li z n).rows=z.rows.filter fun r => !((gd r 0).int==n.int):=by unfold li;rw[h];rfl
theorem ahh{z n:D}(h:aY z=true):aY (li z n)=true:=by
 have:li z n=.l (z.rows.filter fun r => !((gd r 0).int==n.int)):=by unfold li;rw[h];rfl
 rw[this];exact OW h _
theorem XN(rows:List b8)(C:b8->Bool)(f:b8->b8):∀k,k<=rows.length->kpL (fun k=>C (rows.getD k [])) (fun k=>f (rows.getD k [])) k=((rows.take k).filter C).map f
 | 0,_=>rfl
 | k+1,hk=>by rw[kpL,XN rows C f k (by omega),Aa (show k<rows.length by omega),E7,y8];generalize rows.getD k []=r;rw[C6];cases C r <;> simp
theorem Xi(rows:List b8)(C:b8->Bool)(f:b8->b8):kpL (fun k=>C (rows.getD k [])) (fun k=>f (rows.getD k [])) rows.length=(rows.filter C).map f:=by rw[XN rows C f rows.length (i8 _),F1]
abbrev nrm(r:b8):b8:=sub r 0 4
theorem GV(z:D)(n:Int):(po z n false).rows.map nrm=(z.rows.map nrm).filter fun r => !((gd r 0).int==n):=by
 unfold po;rw[bd,Xi z.rows (fun r=>((gd r 0).int==n)==false) (fun r=>sub r 0 4),D6,K0];have e1:(nrm ∘ fun r=>sub r 0 4)=nrm:=rfl;have e2:((fun r => !((gd r 0).int==n)) ∘ nrm)=fun r=>(((gd r 0).int==n)==false):=by funext r;show (!((gd r 0).int==n))=(((gd r 0).int==n)==false);cases (gd r 0).int==n <;> rfl
 rw[e1,e2]
theorem VP{x y:D}(h:x.rows.map nrm=y.rows.map nrm):DA x y=true:=by
 have hl:x.rows.length=y.rows.length:=by have:=congrArg List.length h;simpa using this
 unfold DA ga;rw[hl,s9,y7,i9];intro k hk;have hk:=m7.1 hk;have e:nrm (x.rows.getD k [])=nrm (y.rows.getD k []):=by
  have h1:(x.rows.map nrm)[k]?=(y.rows.map nrm)[k]?:=by rw[h]
  rw[w9,w9,g9 (by omega),g9 hk] at h1;rw[aZ (by omega),aZ hk];simpa using h1
 show TK (nrm (x.rows.getD k [])) (nrm (y.rows.getD k []))=true;rw[e];exact IW _
def mA(w t:D):Nat->D
 | 0=>w
 | k+1=>bQ (mA w t k) (gd (t.rows.getD k []) 0)
theorem zF{w t:D}(hw:(an w).Pairwise (· < ·)):∀k,k<=t.rows.length->(an (mA w t k)).Pairwise (· < ·)/\∀m,m∈an (mA w t k)↔m∈an w\/m∈(an t).take k
 | 0,_=>⟨hw,fun m=>by simp[mA]⟩
 | k+1,hk=>by
  obtain⟨h1,y⟩:=zF (t:=t) hw k (by omega);refine⟨Vo h1,fun m=>?_⟩;rw[mA,gG h1,yu,y,PF (dC t k (by omega))];simp only[n3,y5];constructor
  ·rintro (h | h | h)
   ·exact .inr (.inr h)
   ·exact .inl h
   ·exact .inr (.inl h)
  ·rintro (h | h | h)
   ·exact .inr (.inl h)
   ·exact .inr (.inr h)
   ·exact .inl h
theorem GR(w t:D):∀k,(mA w t k).rows.length<=w.rows.length+k
 | 0=>i8 _
 | k+1=>by have h1:=GR w t k;have y:=jq (mA w t k) (gd (t.rows.getD k []) 0);show (bQ _ _).rows.length<=_;omega
def dy(l:D)(C:b8->Bool):Nat->D
 | 0=>.l []
 | k+1=>bif C (l.rows.getD k []) then bQ (dy l C k) (gd (l.rows.getD k []) 0) else dy l C k
theorem qJ(l:D)(C:b8->Bool):∀k,k<=l.rows.length->(an (dy l C k)).Pairwise (· < ·)/\∀m,m∈an (dy l C k)↔∃r∈l.rows.take k,C r=true/\(gd r 0).int=m
 | 0,_=>⟨List.Pairwise.nil,fun m=>by simp[dy,an,D.rows]⟩
 | k+1,hk=>by
  obtain⟨h1,J⟩:=qJ l C k (by omega);rw[Aa (show k<l.rows.length by omega),dy];generalize l.rows.getD k []=r;cases hc:C r with
  | false =>
   refine⟨h1,fun m=>?_⟩;rw[f9,J];constructor
   ·rintro⟨x,y,h⟩;exact⟨x,by simp[y],h⟩
   ·rintro⟨x,y,h,e⟩;rcases n3.1 y with y | y
    ·exact⟨x,y,h,e⟩
    ·rw[y5.1 y,hc] at h;cases h
  | true =>
   refine⟨Vo h1,fun m=>?_⟩;rw[g6,gG h1,yu,J];constructor
   ·rintro (h | ⟨x,y,h⟩)
    ·exact⟨r,by simp,hc,h.symm⟩
    ·exact⟨x,by simp[y],h⟩
   ·rintro⟨x,y,h,e⟩;rcases n3.1 y with y | y
    ·exact .inr ⟨x,y,h,e⟩
    ·rw[y5.1 y] at e;exact .inl e.symm
theorem je(l:D)(C:b8->Bool):∀k,(dy l C k).rows.length<=k
 | 0=>i8 _
 | k+1=>by
  have h1:=je l C k;have y:=jq (dy l C k) (gd (l.rows.getD k []) 0);rw[dy];cases C (l.rows.getD k [])
  ·show (dy l C k).rows.length<=_;omega
  ·show (bQ _ _).rows.length<=_;omega
def pP(l w z:D)(M H:b8->Bool):Nat->D × D × Bool
 | 0=>(l,w,false)
 | k+1=>bif !(M (z.rows.getD k [])) then pP l w z M H k else bif H (z.rows.getD k []) then ((pP l w z M H k).1,(pP l w z M H k).2.1,true) else
  (po (pP l w z M H k).1 (gd (z.rows.getD k []) 0).int false,bQ (pP l w z M H k).2.1 (gd (z.rows.getD k []) 0),(pP l w z M H k).2.2)
def Ow(ds:List Nat):Ent:=(afW,fun args=>match args with
 | [t]=>bif ds.contains (gd t.p 0).int.toNat then some (T.none_,false) else none
 | _=>none)
theorem wY{P:Program}(ds:List Nat):ay P (Ow ds):=by
 intro args r h;unfold Ow at h;simp only at h
 split at h
 ·rename_i t;cases hc:ds.contains (gd t.p 0).int.toNat <;> rw[hc] at h <;> cases h
 ·cases h
def yC:Ent:=(acx,fun _=>some (T.none_,false))
theorem aef{P:Program}:ay P yC:=by intro args r h;unfold yC at h;cases h
theorem xF{P:Program}:ay P yC:=aef
abbrev b9:List Ce:=[.d si,.own (0,1) true 41,.own (0,2) true 41,.own (0,3) true 108,.own (0,4) true 93,.own (0,1000005) true 75,.own (0,6) true 3,.own (0,7) true 3,.d si]
def sa:List Ce:= b9
def Ax:Ent:=Ow [28,44]
theorem KX:ay f8 Ax:=wY _
abbrev uY:=find [DY,DZ,nP,Lq,uU,Ax]
abbrev uX:=[0,1,2,3,5,30,31,32,33]
def ke(N:Nat)(p:b8):b8->Out:=bb f8 uY N uX Tryz.f74 (.one (.agg sa)) [⟨ag aR,p⟩] 0
theorem Ay(N:Nat)(p:b8)(x0 x1 x2 x3 x4 x5 x6 x7 x8 x9 c0 Y J M y Z c2 c3 b3 W a2 b0 a8 U c4 a7 a3 b6 a5 b4 a4 a0 b1 a6 a1 x35 c1 b2 O V b5 c5:D):(ke N p) [x0,x1,x2,x3,x4,x5,x6,x7,x8,x9,c0,Y,J,M,y,Z,c2,c3,b3,W,a2,b0,a8,U,c4,a7,a3,b6,a5,b4,a4,a0,b1,a6,a1,x35,c1,b2,O,V,b5,c5] =
 bif ltI y.int M.int then nd (ah y.int J.rows.length) (nd (leI ((gd (J.rows.getD y.int.toNat []) 1).rows.length:Int) 2000000) (nd (bl (O.rows ++ [[gd (J.rows.getD y.int.toNat []) 0,.l (gd (J.rows.getD y.int.toNat []) 1).rows]])&&true) (nx [x0,x1,x2,x3,x4,x5,x6,x7,x8,x9,c0,Y,J,M,.i (w64 (y.int+1)),Z,c2,c3,b3,W,a2,b0,a8,U,c4,a7,a3,b6,a5,b4,a4,a0,b1,a6,a1,x35,c1,b2,.l (O.rows ++ [[gd (J.rows.getD y.int.toNat []) 0,.l (gd (J.rows.getD y.int.toNat []) 1).rows]]),V,b5,c5])))
 else ex 0 [x0,x1,x2,x3,x4,x5,x6,x7,x8,x9,c0,Y,J,M,y,Z,c2,c3,b3,W,a2,b0,a8,U,c4,a7,a3,b6,a5,b4,a4,a0,b1,a6,a1,x35,c1,b2,O,V,b5,c5]:=by kernel_rfl
def ug(N:Nat)(p:b8):List b8:= [[.i 0],[gd p 0,.l (gd p 1).rows,.l (gd p 2).rows,.l (gd p 3).rows,.l (gd p 4).rows,.l [],.l (gd p 6).rows,.l (gd p 7).rows,gd p 8],[.l (gd p 7).rows],[.l (gd p 6).rows],[.l (gd p 4).rows],[.l (gd p 3).rows],[.l (gd p 2).rows],[.l (gd p 1).rows],[gd p 8],[.i 0],[gd p 7],[.i 0],[gd p 6],[.i 0],[gd p 4],[.i 0],[gd p 3],[.i 0],[gd p 2],[.i 0],[gd p 1],[.i 0],[gd p 0],[.i 0],p,[.i 0],[.i 0],sub p 0 9,[.i 0,.l [],.l [],.l [],.l [],.l [],.l [],.l [],.i 0],[gd p 0,.l (gd p 1).rows,.l (gd p 2).rows,.l (gd p 3).rows,.l (gd p 4).rows,.l [],.l (gd p 6).rows,.l (gd p 7).rows,gd p 8]]
theorem MF(N:Nat)(p:b8):bf f8 uY N uX Tryz.f74 (.one (.agg sa)) [⟨ag aR,p⟩]=some (bo,
 nd ((leI ((gd p 1).rows.length:Int) 2000000)&&((leI ((gd p 2).rows.length:Int) 2000000)&&((leI ((gd p 3).rows.length:Int) 1000000)&&((leI ((gd p 4).rows.length:Int) 2000000)&&((leI ((gd p 6).rows.length:Int) 1000000000)&&((leI ((gd p 7).rows.length:Int) 1000000000)&&true)))))) (ndN 7 (((leI ((gd p 1).rows.length:Int) 2000000)&&((leI ((gd p 2).rows.length:Int) 2000000)&&((leI ((gd p 3).rows.length:Int) 1000000)&&((leI ((gd p 4).rows.length:Int) 2000000)&&((leI ((gd p 6).rows.length:Int) 1000000000)&&((leI ((gd p 7).rows.length:Int) 1000000000)&&true))))))&&(em (ug N p) (ug N p))) ((let y:=aX (ke N p) N [gd p 0,gd p 1,gd p 2,gd p 3,gd p 4,gd p 5,gd p 6,gd p 7,gd p 8,.i 0,.i 0,.i 0,gd p 5,.i ((gd p 5).rows.length:Int),.i 0,gd p 0,gd p 1,gd p 2,gd p 3,gd p 4,gd p 5,gd p 6,gd p 7,gd p 8,.i 0,.l [],.l [],.l [],.l [],.l [],.l [],.l [],.i 0,gd p 0,.l (gd p 1).rows,.l (gd p 2).rows,.l (gd p 3).rows,.l (gd p 4).rows,.l [],.l (gd p 6).rows,.l (gd p 7).rows,gd p 8]
  nd y.isSome (nd (y.code==2) (some (1,sub y.pay 33 9))))))):=by kernel_rfl
def Gy(p:b8):b8:= [gd p 0,.l (gd p 1).rows,.l (gd p 2).rows,.l (gd p 3).rows,.l (gd p 4).rows,.l (kpL (fun _=>true) (fun k => [gd ((gd p 5).rows.getD k []) 0,.l (gd ((gd p 5).rows.getD k []) 1).rows]) (gd p 5).rows.length),.l (gd p 6).rows,.l (gd p 7).rows,gd p 8]
abbrev ddS(p:b8):b8:=sub (Gy p) 0 9
abbrev dpS(p:b8):b8:=ddS (sub p 0 9)
def dY(p:b8):Bool:=leI ((gd p 1).rows.length:Int) 1000000&&(leI ((gd p 2).rows.length:Int) 1000000&&(leI ((gd p 3).rows.length:Int) 1000000&&(leI ((gd p 4).rows.length:Int) 1000000&&(leI ((gd p 5).rows.length:Int) 1000000&&(leI ((gd p 6).rows.length:Int) 1000000&&(leI ((gd p 7).rows.length:Int) 1000000&&(List.range (gd p 5).rows.length).all fun k=>leI ((gd ((gd p 5).rows.getD k []) 1).rows.length:Int) 1000000))))))
def vG:Ent:=(74,e1 (ag aR) fun p=>(⟨.one (.agg sa),ddS p⟩,dY p))
theorem yL:ay f8 vG:=cK fun p h=>au (N:=(gd p 5).rows.length+1) (ks:=uX) (al (fC ⟨NW,fC ⟨Cd,fC ⟨nO,fC ⟨Ih,fC ⟨yY,fC ⟨KX,fN⟩⟩⟩⟩⟩⟩)) Tryz.func74 fun hw=>by
 rw[MF];simp only[ndN];have h:dY p=true:=h;unfold dY at h;simp only[a9] at h;obtain⟨h1,O,V,h4,h5,W,h7,J⟩:=h;have hw:∀k,k<(gd p 5).rows.length->leI ((gd ((gd p 5).rows.getD k []) 1).rows.length:Int) 1000000=true:=fun k hk=>i9.1 J k (m7.2 hk)
 simp only[leI,g5] at h1 O V h4 h5 W h7 hw;have q1:leI ((gd p 1).rows.length:Int) 2000000=true:=bi (by omega);have q2:leI ((gd p 2).rows.length:Int) 2000000=true:=bi (by omega);have q3:leI ((gd p 3).rows.length:Int) 1000000=true:=bi (by omega);have y:leI ((gd p 4).rows.length:Int) 2000000=true:=bi (by omega);have Y:leI ((gd p 6).rows.length:Int) 1000000000=true:=bi (by omega);have M:leI ((gd p 7).rows.length:Int) 1000000000=true:=bi (by omega);simp only[q1,q2,q3,y,Y,M,E6,u5,bn,aU];have e:=cJ (L:=ke ((gd p 5).rows.length+1) p) (fun k => [gd p 0,gd p 1,gd p 2,gd p 3,gd p 4,gd p 5,gd p 6,gd p 7,gd p 8,.i 0,.i 0,.i 0,gd p 5,.i ((gd p 5).rows.length:Int),.i (k:Int),gd p 0,gd p 1,gd p 2,gd p 3,gd p 4,gd p 5,gd p 6,gd p 7,gd p 8,.i 0,.l [],.l [],.l [],.l [],.l [],.l [],.l [],.i 0,gd p 0,.l (gd p 1).rows,.l (gd p 2).rows,.l (gd p 3).rows,.l (gd p 4).rows,.l (kpL (fun _=>true) (fun k => [gd ((gd p 5).rows.getD k []) 0,.l (gd ((gd p 5).rows.getD k []) 1).rows]) k),.l (gd p 6).rows,.l (gd p 7).rows,gd p 8]) (gd p 5).rows.length 0 (fun k hk=>?_) ?_ (N:=(gd p 5).rows.length+1) (by omega)
 ·simp only[j9,show kpL (fun _=>true) (fun k => [gd ((gd p 5).rows.getD k []) 0,.l (gd ((gd p 5).rows.getD k []) 1).rows]) 0 = [] from rfl] at e;rw[e];rfl
 ·show ke _ p [_,_,_,_,_,_,_,_,_,_,_,_,_,_,.i (k:Int),_,_,_,_,_,_,_,_,_,_,_,_,_,_,_,_,_,_,_,_,_,_,_,_,_,_,_]=_;rw[Ay];have a0:=hw k hk;have U:=jy (fun _=>true) (fun k => [gd ((gd p 5).rows.getD k []) 0,.l (gd ((gd p 5).rows.getD k []) 1).rows]) k;have Z:leI ((gd ((gd p 5).rows.getD k []) 1).rows.length:Int) 2000000=true:=bi (by omega);have l2:bl (kpL (fun _=>true) (fun k => [gd ((gd p 5).rows.getD k []) 0,.l (gd ((gd p 5).rows.getD k []) 1).rows]) k ++ [[gd ((gd p 5).rows.getD k []) 0,D.l (gd ((gd p 5).rows.getD k []) 1).rows]])=true:=ci (by rw[i6];show _+1<=_;omega);simp only[aA,bd,di hk,bu hk,g8,aG hk (show (gd p 5).rows.length<=9223372036854775807 by omega),Z,l2,u5,aU];rfl
 ·show ke _ p [_,_,_,_,_,_,_,_,_,_,_,_,_,_,.i ((gd p 5).rows.length:Int),_,_,_,_,_,_,_,_,_,_,_,_,_,_,_,_,_,_,_,_,_,_,_,_,_,_,_]=_;rw[Ay];simp only[aA,ca]
def jI:b8:= [.i 0,.l [],.l [],.l [],.l [],.l [],.l [],.l [],.i 0]
def du(p:b8)(c:Int):b8:=bif c==1 then jI else Gy p
def mc(rs:List b8):Int:=(gd (rs.getD (rs.length - 1) []) 1).int
def QS(rs:List b8)(lo hi:Int):List b8:=
 bif ltI 0 (rs.length:Int)&&(mc rs==lo) then rs.set (rs.length - 1) [gd (rs.getD (rs.length - 1) []) 0,.i hi] else rs ++ [[.i lo,.i hi]]
theorem IH{l:List b8}{i:Nat}{x:b8}(h:i<l.length):(l.set i x).getD i []=x:=by simp[g4,L9,h]
theorem rX(l:List b8)(x:b8):(l ++ [x]).getD l.length []=x:=by simp[g4]
theorem ahk(rs:List b8)(lo hi:Int):(QS rs lo hi).length<=rs.length+1:=by unfold QS;cases (ltI 0 (rs.length:Int)&&(mc rs==lo)) <;> simp
def kpR(C:Nat->Bool):Nat->List b8
 | 0 => []
 | k+1=>bif C k then QS (kpR C k) (k:Int) ((k:Int)+1) else kpR C k
theorem acP(C:Nat->Bool):∀k,(kpR C k).length<=k
 | 0=>i8 _
 | k+1=>by
  have:=acP C k;have y:=ahk (kpR C k) (k:Int) ((k:Int)+1);rw[kpR];cases C k
  ·show (kpR C k).length<=_;omega
  ·show (QS _ _ _).length<=_;omega
structure afO(z:D):Prop where
 lo:∀k,k<z.rows.length->(gd (z.rows.getD k []) 0).int=(afc z k).int
 lt:∀k,k<z.rows.length->(afc z k).int<(afc z (k+1)).int
 n:z.rows.length<=16
 e:(afc z z.rows.length).int=1000
theorem afO.mono{z:D}(h:afO z):∀m k,k+m<=z.rows.length->(afc z k).int<=(afc z (k+m)).int
 | 0,k,_=>J4 _
 | m+1,k,hk=>by have:=h.mono m k (by omega);have y:=h.lt (k+m) (by omega);rw[show k+(m+1)=k+m+1 from by omega];omega
def amj(rs:List b8)(lo hi:D):List b8:=
 bif ltI 0 (rs.length:Int)&&(mc rs==lo.int) then rs.set (rs.length - 1) [gd (rs.getD (rs.length - 1) []) 0,hi] else rs ++ [[lo,hi]]
def aiq(a b:List b8):Prop:=a.length=b.length/\∀i j,(gd (a.getD i []) j).int=(gd (b.getD i []) j).int
theorem aiq.add{a b:List b8}(h:aiq a b)(lo hi:D):aiq (amj a lo hi) (QS b lo.int hi.int):=by
 unfold amj QS;have e:mc a=mc b:=by unfold mc;rw[h.1];exact h.2 _ _
 rw[e,h.1];cases (ltI 0 (b.length:Int)&&(mc b==lo.int))
 ·refine⟨by simp[h.1],fun i j=>?_⟩;simp only[f9];by_cases J:i<b.length
  ·have O:(a ++ [[lo,hi]]).getD i []=a.getD i []:=by simp[g4,z9 (show i<a.length by rw[h.1];exact J)]
   have U:(b ++ [[D.i lo.int,D.i hi.int]]).getD i []=b.getD i []:=by simp[g4,z9 J]
   rw[O,U];exact h.2 i j
  ·by_cases V:i=b.length
   ·subst V;rw[rX,<- h.1,rX]
    match j with
    | 0=>rfl
    | 1=>rfl
    | j+2=>rfl
   ·have O:(a ++ [[lo,hi]]).getD i [] = []:=by rw[g4,H2 (by have:=h.1;rw[i6,this];show b.length+1<=i;omega)];rfl
    have U:(b ++ [[D.i lo.int,D.i hi.int]]).getD i [] = []:=by rw[g4,H2 (by simp;omega)];rfl
    rw[O,U]
 ·refine⟨by simp[h.1],fun i j=>?_⟩;simp only[g6];by_cases J:i=b.length - 1/\i<b.length
  ·obtain⟨rfl,M⟩:=J;rw[IH M,IH (by rw[h.1];exact M)]
   match j with
   | 0=>exact h.2 _ _
   | 1=>rfl
   | j+2=>rfl
  ·have q:∀(l:List b8) (y:b8),l.length=b.length->(l.set (b.length - 1) y).getD i []=l.getD i []:=fun l y hl=>by
    simp only[g4,L9]
    split
    ·split
     ·exact absurd ⟨by omega,by omega⟩ J
     ·rw[H2 (by omega)]
    ·rfl
   rw[q a _ h.1,q b _ rfl];exact h.2 i j
def ME(p q:b8):Bool:=
 inB (gd ((gd q 0).rows.getD 0 []) 0).int (gd p 0).int (w64 ((gd p 1).int - 1))
def afo(c:D)(r:b8):Bool:=ME r [gd (c.rows.getD 0 []) 0]
def amd(z:D)(a:b8)(wi k:D):D:=bif inB k.int (gd a 0).int (w64 ((gd a 1).int - 1)) then wi else .b (eL (fun y=>afo (.l [[.l [[k]]]]) (sub y 0 2)) z)
def alU(c:D)(k:Nat):Bool:=(amd (gd ((gd (c.rows.getD 0 []).tail.tail 0).rows.getD 0 []) 0) ((gd (c.rows.getD 0 []) 0).rows.getD 0 []) (gd ((gd (c.rows.getD 0 []).tail 0).rows.getD 0 []) 0) (.i (k:Int))).bool
def amW(c:D):D:=.l (kpR (alU c) 1000)
def Gz(z:D)(a:b8)(wi:D):D:=amW (.l [[.l [sub a 0 2],.l [[wi]],.l [[z]]]])
def Pd(z:D)(a:b8)(wi:D):Bool:=bB z&&ax (sub a 0 2) && !(ltI 16 ((Gz z a wi).rows.length:Int))
def jo(z:D)(a:b8)(wi:D):b8:= [.l (bif Pd z a wi then (Gz z a wi).rows else[]),.b (Pd z a wi)]
abbrev RO:=find []
theorem UV:av f8 RO:=al (fN)
abbrev Sw:=[0,2]
theorem XX(N:Nat)(p:b8):bf f8 RO N Sw Tryz.f255 rb [⟨ri,p⟩]=some (bo,
 ob ((gd p 0).int != (gd p 0).int)):=by kernel_rfl
def RT:Ent:=(255,e1 ri fun p=>(⟨rb,[.b false]⟩,true))
theorem Yj:ay f8 RT:=cK fun p h=>au (N:=0) (ks:=Sw) UV Tryz.func255 fun hw=>by rw[XX];rw[show ((gd p 0).int != (gd p 0).int)=false from I0 _]
abbrev YO:=find []
theorem Xk:av f8 YO:=al (fN)
abbrev XV:=[0,2]
theorem ZL(N:Nat)(p:b8):bf f8 YO N XV Tryz.f215 rb [⟨ri,p⟩]=some (bo,
 ob ((gd p 0).int != (gd p 0).int)):=by kernel_rfl
def YG:Ent:=(215,e1 ri fun p=>(⟨rb,[.b false]⟩,true))
theorem abc:ay f8 YG:=cK fun p h=>au (N:=0) (ks:=XV) Xk Tryz.func215 fun hw=>by rw[ZL];rw[show ((gd p 0).int != (gd p 0).int)=false from I0 _]
abbrev MO:=find [RT]
abbrev NP:=[0,1,4]
theorem Vk(N:Nat)(p q:b8):bf f8 MO N NP Tryz.f214 rb [⟨ri,p⟩,⟨ri,q⟩]=some (bo,
 bif false then bif !false then ob true
 else ob (ltI (gd p 0).int (gd q 0).int)
 else ob (ltI (gd p 0).int (gd q 0).int)):=by kernel_rfl
def MJ:Ent:=(214,e2 ri ri fun p q=>(⟨rb,[.b (ltI (gd p 0).int (gd q 0).int)]⟩,true))
theorem UM:ay f8 MJ:=bm fun p q h=>au (N:=0) (ks:=NP) (al (fC ⟨Yj,fN⟩)) Tryz.func214 fun hw=>by rw[Vk];rfl
abbrev agz:=find [MJ,YG]
abbrev afX:=[0,1,4,5,6,7,8,9,15,27]
def Zz(N:Nat)(p q:b8):b8->Out:=bb f8 agz N afX Tryz.f116 (.tup [.c (.d si),.c (.d (.bool))]) [⟨sd (.sl 3),p⟩,⟨ri,q⟩] 0
theorem ame(N:Nat)(p q:b8)(J M U O x4 y x6:D):(Zz N p q) [J,M,U,O,x4,y,x6] =
 bif ltI y.int x6.int then nd (leI 0 1) (nd (ah (w64 ((IntKind.u64.wrap (w64 (y.int+x6.int))).fdiv (2 ^ (min 1 64)))) J.rows.length) (bif ltI (gd (J.rows.getD (w64 ((IntKind.u64.wrap (w64 (y.int+x6.int))).fdiv (2 ^ (min 1 64)))).toNat []) 0).int M.int then nx [J,M,U,O,x4,.i (w64 ((w64 ((IntKind.u64.wrap (w64 (y.int+x6.int))).fdiv (2 ^ (min 1 64))))+1)),x6]
 else nx [J,M,U,O,x4,y,.i (w64 ((IntKind.u64.wrap (w64 (y.int+x6.int))).fdiv (2 ^ (min 1 64))))]))
 else ex 0 [J,M,U,O,x4,y,x6]:=by kernel_rfl
def alQ(N:Nat)(p q:b8)(y:Out):Out:=nd (ah (gd y.pay 5).int (gd y.pay 0).rows.length) (bif false then some (1,[gd y.pay 5,.b false]) else some (1,[gd y.pay 5,.b false]))
def alJ(N:Nat)(p q:b8)(y:Out):Out:=bif (gd ((gd y.pay 0).rows.getD (gd y.pay 5).int.toNat []) 0).int==(gd y.pay 1).int then some (1,[gd y.pay 5,.b true]) else (alQ N p q y)
def alM(N:Nat)(p q:b8)(y:Out):Out:=bif ltI (gd y.pay 5).int (gd y.pay 4).int then nd (ah (gd y.pay 5).int (gd y.pay 0).rows.length) (alJ N p q y) else some (1,[gd y.pay 5,.b false])
def ahi(N:Nat)(p q:b8):Out:=let y:Out:=aX (Zz N p q) N [gd p 0,gd q 0,.i 0,.i 0,.i ((gd p 0).rows.length:Int),.i 0,.i ((gd p 0).rows.length:Int)];nd y.isSome (nd (y.code==2) (alM N p q y))
theorem ajT(N:Nat)(p q:b8):bf f8 agz N afX Tryz.f116 (.tup [.c (.d si),.c (.d (.bool))]) [⟨sd (.sl 3),p⟩,⟨ri,q⟩]=some (bo,(ahi N p q)):=by kernel_rfl
theorem LC{z:D}(h:(an z).Pairwise (· < ·)){i j:Nat}(y:i<j)(J:j<z.rows.length):bT z i<bT z j:=by
 have h1:=dC z i (by omega);have M:=dC z j J;obtain⟨O,e1⟩:=g7.1 h1;obtain⟨U,e2⟩:=g7.1 M;have:=y6.1 h i j O U y
 rwa [e1,e2] at this
theorem aje{z:D}(h:(an z).Pairwise (· < ·))(t:Int):∀m,m<=z.rows.length->∃i,i<=m/\(∀k,k<i->bT z k<t)/\∀k,i<=k->k<m->t<=bT z k
 | 0,_=>⟨0,i8 _,fun k hk=>absurd hk (G2 _),fun k _ hk=>absurd hk (G2 _)⟩
 | m+1,hm=>by
  obtain⟨i,h1,M,O⟩:=aje h t m (by omega);by_cases hi:i<m
  ·refine⟨i,by omega,M,fun k y J=>?_⟩;rcases C4 k m with h4 | h4
   ·exact O k y h4
   ·obtain rfl:k=m:=by omega
    have U:=O i (i8 _) hi;have V:=LC h hi (show k<z.rows.length by omega);omega
  ·obtain rfl:i=m:=by omega
   by_cases hc:bT z i<t
   ·refine⟨i+1,i8 _,fun k hk=>?_,fun k y J=>by omega⟩;rcases C4 k i with h4 | h4
    ·exact M k h4
    ·obtain rfl:k=i:=by omega
     exact hc
   ·refine⟨i,by omega,M,fun k y J=>?_⟩;obtain rfl:k=i:=by omega
    omega
theorem LS{z:D}(h:(an z).Pairwise (· < ·))(t:Int):bp z t<=z.rows.length/\(∀k,k<bp z t->bT z k<t)/\∀k,bp z t<=k->k<z.rows.length->t<=bT z k:=by obtain⟨i,h1,J,y⟩:=aje h t _ (i8 _);rw[sp h1 J y];exact⟨h1,J,y⟩
theorem aek(p q:b8)(N:Nat)(hz:(an (gd p 0)).Pairwise (· < ·))(Z:(gd p 0).rows.length<=40000):∀(d i j M:Nat),j=i+d->j<=(gd p 0).rows.length->d<M->(∀k,k<i->bT (gd p 0) k<(gd q 0).int)->(∀k,j<=k->k<(gd p 0).rows.length->(gd q 0).int<=bT (gd p 0) k) ->
  aX (Zz N p q) M [gd p 0,gd q 0,.i 0,.i 0,.i ((gd p 0).rows.length:Int),.i (i:Int),.i (j:Int)]=some (2,[gd p 0,gd q 0,.i 0,.i 0,.i ((gd p 0).rows.length:Int),.i (bp (gd p 0) (gd q 0).int:Int),.i (bp (gd p 0) (gd q 0).int:Int)]):=by
 intro d
 induction d using Nat.strongRecOn with
 | _ d V =>
 intro i j M hj U hM h1 O;obtain⟨M,rfl⟩:∃Y,M=Y+1:=⟨M - 1,by omega⟩;rw[aX,ame];simp only[aA];by_cases W:d=0
 ·subst W;obtain rfl:j=i:=by omega
  rw[ca,sp U h1 O];rfl
 ·rw[di (show i<j from by omega)];have y:(i+j) / 2<(gd p 0).rows.length:=by omega
  simp only[akX (show i+j<=100000 from by omega),bu y,g8,show leI 0 1=true from rfl,aU];rw[show (gd ((gd p 0).rows.getD ((i+j) / 2) []) 0).int=bT (gd p 0) ((i+j) / 2) from rfl];by_cases hc:bT (gd p 0) ((i+j) / 2)<(gd q 0).int
  ·rw[lp hc,g6];simp only[aG y (show (gd p 0).rows.length<=9223372036854775807 from by omega)];exact V (j - ((i+j) / 2+1)) (by omega) ((i+j) / 2+1) j M (by omega) U (by omega) (fun k a1=>by
    rcases C4 k ((i+j) / 2) with h | h
    ·have:=LC hz h y;omega
    ·obtain rfl:k=(i+j) / 2:=by omega
     exact hc) O
  ·rw[iI (show (gd q 0).int<=bT (gd p 0) ((i+j) / 2) from by omega),f9];exact V ((i+j) / 2 - i) (by omega) i ((i+j) / 2) M (by omega) (by omega) (by omega) h1 (fun k a0 J=>by
    rcases C4 ((i+j) / 2) k with h | h
    ·have:=LC hz h J;omega
    ·obtain rfl:k=(i+j) / 2:=by omega
     omega)
def ahY:Ent:=(116,e2 (sd (.sl 3)) ri fun p q=>(⟨.tup [.c (.d si),.c (.d (.bool))],[.i (bp (gd p 0) (gd q 0).int:Int),.b (bsB (gd p 0) (gd q 0).int)]⟩,lK (gd p 0)&&leI ((gd p 0).rows.length:Int) 40000))
theorem acG:ay f8 ahY:=bm fun p q h=>au (N:=(gd p 0).rows.length+1) (ks:=afX) (al (fC ⟨UM,fC ⟨abc,fN⟩⟩)) Tryz.func116 fun hw=>by
 rw[ajT];have h:(lK (gd p 0)&&leI ((gd p 0).rows.length:Int) 40000)=true:=h;simp only[a9,leI,g5] at h;have hz:=PK h.1;have y:(gd p 0).rows.length<=40000:=by have:=h.2;omega
 have e:=aek p q ((gd p 0).rows.length+1) hz y (gd p 0).rows.length 0 (gd p 0).rows.length ((gd p 0).rows.length+1) (by omega) (i8 _) (by omega) (fun k hk=>absurd hk (G2 _)) (fun k h1 M=>absurd M (by omega));simp only[j9] at e;unfold ahi;rw[e];show some (bo,bif ltI (bp (gd p 0) (gd q 0).int:Int) ((gd p 0).rows.length:Int) then nd (ah (bp (gd p 0) (gd q 0).int:Int) (gd p 0).rows.length) (bif bT (gd p 0) (Int.toNat (bp (gd p 0) (gd q 0).int:Int))==(gd q 0).int then some (1,[.i (bp (gd p 0) (gd q 0).int:Int),.b true]) else nd (ah (bp (gd p 0) (gd q 0).int:Int) (gd p 0).rows.length) (some (1,[.i (bp (gd p 0) (gd q 0).int:Int),.b false]))) else some (1,[.i (bp (gd p 0) (gd q 0).int:Int),.b false]))=_;rw[g8];unfold bsB;by_cases J:bp (gd p 0) (gd q 0).int<(gd p 0).rows.length
 ·rw[gy J,bK J];cases bT (gd p 0) (bp (gd p 0) (gd q 0).int)==(gd q 0).int <;> rfl
 ·rw[iI (show ((gd p 0).rows.length:Int)<=(bp (gd p 0) (gd q 0).int:Int) from by omega)];rfl
end Go.Proofs.YtpdfmcmnjikppaaGreat
namespace Go.Proofs.YtpdfmcmnjikppaaGreat.HI
open Go.RowKit Go.Lib Go.Proofs.YtpdfmcmnjikppaaGreat.H
set_option maxRecDepth 100000
set_option maxHeartbeats 4000000
abbrev zi:Value:=.int .i64 0
theorem info_int:(Tryz.prog.info? 3).map (fun i=>(i.zero,i.size,i.bytes))=some (some zi,1,8):=by kernel_rfl
theorem ins_shift(b off n c i k M y vc:Nat)(cs vs:List Value)(w:World)(hk:k=i+1)(hi:i<n)(c7:n+1<=c)(c9:c<=9223372036854775807)(b2:M≠b)
  (c6:cs.length=n) (a3:vs.length=1)
  (b3:∀j v,cs[j]?=some v->w.cell? ⟨b,off+j,none⟩=some v) (Z:∀j,j<(n+1)->(w.cell? ⟨b,off+j,none⟩).isSome=true) (a4:∀j,j<(n+1)->w.frozen? ⟨b,off+j,none⟩=false)
  (b1:∀j v,vs[j]?=some v->w.cell? ⟨M,y+j,none⟩=some v) (c0:∀v∈cs,v.oneCell'=true) (c4:∀v∈vs,v.oneCell'=true)
  (tA tB:TypeId) (kA kB:Nat) (a6:w.shape? M=some (tA,kA)) (a7:w.shape? b=some (tB,kB)) (b6:kB≠0) (a5:w.frozen? ⟨M,y,none⟩=false) (b4:w.frozen? ⟨M,kA,none⟩=false) :
  Calls f8 195 #[.slice (some ⟨b,off,none⟩) n c,.int .i64 i,.slice (some ⟨M,y,none⟩) 1 vc] w fun e w' =>
   e=.returned (.slice (some ⟨b,off,none⟩) (n+1) c)/\w'=(w.drew.setCells b (off+k) (cs.drop (i))).setCells b (off+i) vs:=by
 obtain⟨i0,c3,e0,c2,d8⟩:=info_parts info_int;have c8:Tryz.prog.follows .mixedOrders=true:=by kernel_rfl
 have d5:¬((i:Int)=(n:Int)):=by omega
 have a8:(Tryz.prog.info? 3).map (·.size)=some 1:=by rw[c3];simp[c2]
 have a0:=Tryz.underlying26;have c5:∀lb cb,(callFunc 250 #[.slice (some ⟨M,y,none⟩) 1 vc,.slice (some ⟨b,off+k,none⟩) lb cb]).run f8 w=.ok (.value (.bool false)) w:=fun lb cb=>by
  rw[run_callFunc_extern Tryz.func250 (by kernel_rfl) (by kernel_rfl) (by kernel_rfl) (e:=Extern.SlicesOverlaps.overlaps #[26,26] #[4]) (by kernel_rfl),
   Lib.run_overlaps_apart w 26 4 3 a0 1 Tryz.sizeOf3 ⟨M,y,none⟩ ⟨b,off+k,none⟩ 1 vc lb cb b2 tA tB kA kB a6 a7 b6 a5 b4]
  rfl
 have U:(cs.drop (i)).length=(n - i):=by rw[v9,c6]
 have a2:∀Y V sc,(Builtin.copy_ #[26,26] Y #[.slice (some ⟨b,off+k,none⟩) (n+1 - k) V,.slice (some ⟨b,off+i,none⟩) (n+1 - i) sc]).run f8 w.drew=.ok (goInt ((n - i:Nat):Int)) (w.drew.setCells b (off+k) (cs.drop (i))):=fun Y V sc =>
  gk w.drew _ _ Y 3 1 b (off+k) (n - i) (n+1 - k) V ⟨b,off+i,none⟩ (n+1 - i) sc (cs.drop (i)) a0 a8 (by simp only[H6];split <;> omega) (U.trans (I7 _).symm)
   (fun j v J=>by rw[C1,u4];exact b3 (i+j) v (by rwa [A6] at J))
   (fun j J=>by rw[U] at J;rw[u4];exact Z _ (by omega)) (fun j J=>by rw[U] at J;rw[u4];exact a4 _ (by omega)) (fun v hv=>c0 v (D1 hv))
 obtain⟨W1,O⟩:∃W1,W1=w.drew.setCells b (off+k) (cs.drop (i)):=⟨_,rfl⟩;have a1:∀t,t<(n+1)->(W1.cell? ⟨b,off+t,none⟩).isSome=true:=fun t ht=>by rw[O];exact jp b _ _ _ (fun j J=>by rw[U] at J;rw[u4];exact Z _ (by omega)) _ (Z t ht)
 have b5:∀(W:World),(∀x,W.cell? x=W1.cell? x)->(∀x,W.frozen? x=W1.frozen? x)->∀Y V,(Builtin.copy_ #[26,26] Y #[.slice (some ⟨b,off+i,none⟩) (n+1 - i) V,.slice (some ⟨M,y,none⟩) 1 vc]).run f8 W=.ok (goInt 1) (W.setCells b (off+i) vs):=fun W b0 c1 Y V =>
  gk W _ _ Y 3 1 b (off+i) 1 (n+1 - i) V ⟨M,y,none⟩ 1 vc vs a0 a8 (by simp only[H6];split <;> omega) (by rw[a3])
   (fun j v J=>by rw[C1,b0,O,F4 b _ _ _ _ (fun h _=>absurd h b2)];exact b1 j v J)
   (fun j J=>by rw[a3] at J;rw[b0,u4];exact a1 _ (by omega)) (fun j J=>by rw[a3] at J;rw[c1,O,F2,u4];exact a4 _ (by omega)) c4
 have hE:Hid (W1=w.drew.setCells b (off+k) (cs.drop (i))):=O;rw[<- O] at a2;have d7:IntKind.i64.wrap ((n:Int)+1)=((n+1:Nat):Int):=by rw[C2];omega
 have d4:IntKind.i64.wrap ((i:Int)+1)=(k:Int):=by rw[C2];omega
 have d6:¬((n:Int)+1 > (c:Int)):=by omega
 have e6:¬(c=k):=by omega
 have e7:¬(c=i):=by omega
 have hin:i<=n:=by omega
 have d3:(k:Int)<=(n:Int)+1:=by omega
 have d1:(i:Int)<=(n:Int)+1:=by omega
 have d2:i<=n+1:=by omega
 clear Z a4 b3 b1 a1 O a6 a7 a5 b4 hk U;go_enter Tryz.func195,Tryz.ntmps195
 go_wp2_with (simp only[c5])
 go_region_law_o (refine step_copy_runI rfl _ _ 26 26 rfl _ _ (by simp[Act.eval,Act.put]) (by simp[Act.eval,Act.put]) (a2 _ _ _) ?_)
 go_wp2_with (at_builtin;refine wpList_copy_runI _ rfl _ _ 26 26 rfl _ _ rfl rfl (b5 _ (fun _=>rfl) (fun _=>rfl) _ _) ?_)
 go_ret
 exact⟨rfl,by rw[hE.out]⟩
theorem ins_end(base:Option Addr)(n c M y vc:Nat)(w w1:World)(J:Value)(a0:n<=c)(Y:c<=9223372036854775807)(W:base=none->c=0)(O:∀Z,(Builtin.append_ #[26,26] Z #[.slice base n c,.slice (some ⟨M,y,none⟩) 1 vc]).run f8 w=.ok J w1) :
  Calls f8 195 #[.slice base n c,.int .i64 n,.slice (some ⟨M,y,none⟩) 1 vc] w fun e w'=>e=.returned J/\w'=w1:=by
 have U:Tryz.prog.follows .mixedOrders=true:=by kernel_rfl
 cases base with
 | none =>
  have V:=W rfl;subst V;obtain rfl:n=0:=by omega
  go_enter Tryz.func195,Tryz.ntmps195
  go_wp2_with (at_builtin;refine Lib.wpList_append_run _ rfl _ _ _ _ rfl _ _ rfl rfl _ _ (O _) ?_)
  all_goals (go_ret;exact⟨rfl,rfl⟩)
 | some a =>
  obtain⟨ab,ao,a1⟩:=a;go_enter Tryz.func195,Tryz.ntmps195
  go_wp2_with (at_builtin;refine Lib.wpList_append_run _ rfl _ _ _ _ rfl _ _ rfl rfl _ _ (O _) ?_)
  all_goals (go_ret;exact⟨rfl,rfl⟩)
theorem ins_grow(b off n i k vb Y vc:Nat)(cs M:List Value)(w:World)(hk:k=i+1)(hi:i<n)(c2:(n+1)*8<=140737488355328)
  (b6:cs.length=n) (a5:M.length=1)
  (a2:∀j v,cs[j]?=some v->w.cell? ⟨b,off+j,none⟩=some v)
  (b1:∀j v,M[j]?=some v->w.cell? ⟨vb,Y+j,none⟩=some v) (d3:∀v∈cs,v.oneCell'=true) (d5:∀v∈M,v.oneCell'=true) :
  Calls f8 195 #[.slice (some ⟨b,off,none⟩) n n,.int .i64 i,.slice (some ⟨vb,Y,none⟩) 1 vc] w fun e w' =>
   e=.returned (.slice (some ⟨w.heap.size,0,none⟩) (n+1) (grownCap w (n+1) n 3)) /\
   w'=(((w.alloc (.cells ((cs.take (i)).toArray++Builtin.zeroCells zi.cells (n+1 - i)++Builtin.zeroCells zi.cells (grownCap w (n+1) n 3 - (n+1))) 3)).drew.setCells w.heap.size (i) M).drew).setCells w.heap.size (k) (cs.drop (i)):=by
 obtain⟨i0,b5,c3,b0,b2⟩:=info_parts info_int;have d8:Tryz.prog.follows .mixedOrders=true:=by kernel_rfl
 have a3:=Tryz.underlying26;have u3:=Tryz.underlying3;have h0:¬((i:Int)=(n:Int)):=by omega
 have a8:(Tryz.prog.info? 3).map (·.size)=some 1:=by rw[b5];simp[b0]
 have d1:b<w.heap.size:=block_lt_of_cell (a2 0 _ (g9 (by omega)));have c4:vb<w.heap.size:=block_lt_of_cell (b1 0 _ (g9 (by omega)));have a7:i+(n+1 - i)=n+1:=by omega
 have a6:(Builtin.firstCells i0.size i (.slice (some ⟨b,off,none⟩) i n)).run f8 w.drew=.ok (cs.take (i)).toArray w.drew:=by
  rw[b0];exact run_firstCells_some w.drew 1 i ⟨b,off,none⟩ i n (cs.take (i)) (by rw[w5];omega) (fun j v J=>by
   rw[C1];rw[u9] at J
   split at J
   ·exact a2 j v J
   ·cases J)
 have f0:IntKind.i64.wrap (((n+1:Nat):Int) - (i:Int))=((n+1 - i:Nat):Int):=by rw[C2];omega
 have a1:∀O,(Builtin.append_ #[26,3] O #[.slice (some ⟨b,off,none⟩) i n,.int .i64 ((n+1 - i:Nat):Int)]).run f8 w =
   .ok (.slice (some ⟨w.heap.size,0,none⟩) (n+1) (grownCap w (n+1) n 3)) (w.drew.alloc (.cells ((cs.take (i)).toArray++Builtin.zeroCells zi.cells (n+1 - i)++Builtin.zeroCells zi.cells (grownCap w (n+1) n 3 - (n+1))) 3)):=fun O=>by
  have h:=Lib.run_append_grow_zeros w 26 3 O 3 i0 zi .i64 .i64 a3 u3 b5 c3 (some ⟨b,off,none⟩) i n (cs.take (i)) a6 (n+1 - i) (by omega) (by omega) (by omega) (by omega) (by rw[b2];omega) (by rw[b2,a7];exact growslice_fits (by omega) c2);rw[a7] at h;exact h
 obtain⟨G,hG⟩:∃G,G=grownCap w (n+1) n 3:=⟨_,rfl⟩;obtain⟨y,a0⟩:∃y:Array Value,y=(cs.take (i)).toArray++Builtin.zeroCells zi.cells (n+1 - i)++Builtin.zeroCells zi.cells (G - (n+1)):=⟨_,rfl⟩;rw[<- hG] at a1 ⊢;rw[<- a0] at a1 ⊢;have c8:(n+1)<=y.size:=by rw[a0];simp[Builtin.zeroCells,Value.cells,b6];omega
 obtain⟨U,V⟩:∃U,U=w.drew.alloc (.cells y 3):=⟨_,rfl⟩;rw[<- V] at a1;have hN:∀j,j<(n+1)->(U.cell? ⟨w.heap.size,j,none⟩).isSome=true:=fun j J=>by rw[V,O0 (w:=w.drew) y _ w.heap.size j rfl,n8 (by omega)];rfl
 have b4:∀j,U.frozen? ⟨w.heap.size,j,none⟩=false:=fun j=>by rw[V];exact M3 (w:=w.drew) y _ w.heap.size j rfl
 have c9:∀j v,w.cell? ⟨b,j,none⟩=some v->U.cell? ⟨b,j,none⟩=some v:=fun j v h=>by rw[V,H0 (w:=w.drew) _ b j d1];exact h
 have d4:∀j v,w.cell? ⟨vb,j,none⟩=some v->U.cell? ⟨vb,j,none⟩=some v:=fun j v h=>by rw[V,H0 (w:=w.drew) _ vb j c4];exact h
 have c1:∀(W:World),(∀x,W.cell? x=U.cell? x)->(∀x,W.frozen? x=U.frozen? x)->∀O dc,(Builtin.copy_ #[26,26] O #[.slice (some ⟨w.heap.size,i,none⟩) (n+1 - i) dc,.slice (some ⟨vb,Y,none⟩) 1 vc]).run f8 W=.ok (goInt 1) (W.setCells w.heap.size (i) M):=fun W Z a4 O dc =>
  gk W _ _ O 3 1 w.heap.size (i) 1 (n+1 - i) dc ⟨vb,Y,none⟩ 1 vc M a3 a8 (by simp only[H6];split <;> omega) (by rw[a5])
   (fun j v J=>by rw[C1,Z];exact d4 _ v (b1 j v J))
   (fun j J=>by rw[a5] at J;rw[Z];exact hN _ (by omega)) (fun j J=>by rw[a4];exact b4 _) d5
 have f3:n+1<=G:=by rw[hG];exact grownCap_ge w _ _ _
 have e6:G<=9223372036854775807:=by have:=grownCap_le_maxLen w (n+1) n 3 (by unfold maxLen;omega);rw[<- hG] at this;unfold maxLen at this;omega
 have c7:b≠w.heap.size:=by omega
 have b3:(cs.drop (i)).length=(n - i):=by rw[v9,b6]
 have c0:∀(W:World),(∀x,W.cell? x=(U.setCells w.heap.size (i) M).cell? x)->(∀x,W.frozen? x=(U.setCells w.heap.size (i) M).frozen? x)->∀O dc sc,(Builtin.copy_ #[26,26] O #[.slice (some ⟨w.heap.size,k,none⟩) (n+1 - k) dc,.slice (some ⟨b,off+i,none⟩) (n - i) sc]).run f8 W=.ok (goInt ((n - i:Nat):Int)) (W.setCells w.heap.size (k) (cs.drop (i))):=fun W Z a4 O dc sc =>
  gk W _ _ O 3 1 w.heap.size (k) (n - i) (n+1 - k) dc ⟨b,off+i,none⟩ (n - i) sc (cs.drop (i)) a3 a8 (by simp only[H6];split <;> omega) (b3.trans (I7 _).symm)
   (fun j v J=>by rw[C1,Z,F4 _ _ _ _ _ (fun h _=>absurd h c7),u4];exact c9 _ v (a2 (i+j) v (by rwa [A6] at J)))
   (fun j J=>by rw[b3] at J;rw[Z];exact jp _ _ _ _ (fun t ht=>by rw[a5] at ht;exact hN _ (by omega)) _ (hN _ (by omega)))
   (fun j J=>by rw[a4,F2];exact b4 _) (fun v hv=>d3 v (D1 hv))
 subst V;have c5:∀x,((w.alloc (.cells y 3)).drew).cell? x=(w.drew.alloc (.cells y 3)).cell? x:=fun x=>rfl
 have c6:∀x,((w.alloc (.cells y 3)).drew).frozen? x=(w.drew.alloc (.cells y 3)).frozen? x:=fun x=>rfl
 have d2:∀x,(((w.alloc (.cells y 3)).drew.setCells w.heap.size (i) M).drew).cell? x=((w.drew.alloc (.cells y 3)).setCells w.heap.size (i) M).cell? x:=fun x=>rfl
 have d6:∀x,(((w.alloc (.cells y 3)).drew.setCells w.heap.size (i) M).drew).frozen? x=((w.drew.alloc (.cells y 3)).setCells w.heap.size (i) M).frozen? x:=fun x=>rfl
 have f1:IntKind.i64.wrap ((n:Int)+1)=((n+1:Nat):Int):=by rw[C2];omega
 have e9:IntKind.i64.wrap ((i:Int)+1)=(k:Int):=by rw[C2];omega
 have g2:IntKind.i64.wrap ((n:Int)+1 - (i:Int))=((n+1 - i:Nat):Int):=by rw[C2];omega
 have e8:(n:Int)+1 - (i:Int)=((n+1 - i:Nat):Int):=by omega
 have g3:(n:Int)+1 > (n:Int):=by omega
 have g1:¬(n=i):=by omega
 have h2:¬(G=i):=by omega
 have f2:¬(G=k):=by omega
 have hin:i<=n:=by omega
 have e7:(i:Int)<=(n:Int):=by omega
 have e0:(k:Int)<=(n:Int)+1:=by omega
 have d7:(i:Int)<=(n:Int)+1:=by omega
 clear a6 a0 hG c8 a7 hk;go_enter Tryz.func195,Tryz.ntmps195
 go_wp2_with (first
  | (at_builtin;refine Lib.wpList_append_run _ rfl _ _ _ _ rfl _ _ rfl rfl _ _ (a1 _) ?_)
  | (at_builtin;refine wpList_copy_runI _ rfl _ _ 26 26 rfl _ _ rfl rfl (c1 _ c5 c6 _ _) ?_))
 go_region_law_o (refine step_copy_runI rfl _ _ 26 26 rfl (.slice (some ⟨w.heap.size,k,none⟩) (n+1 - k) (G - k)) (.slice (some ⟨b,off+i,none⟩) (n - i) (n - i)) (by simp[Act.eval,Act.put]) (by simp[Act.eval,Act.put]) (c0 _ d2 d6 3 (G - k) (n - i)) ?_)
 go_wp2
 go_ret
 exact⟨rfl,rfl⟩
end Go.Proofs.YtpdfmcmnjikppaaGreat.HI
namespace Go.Proofs.YtpdfmcmnjikppaaGreat
set_option maxRecDepth 100000
set_option maxHeartbeats 4000000
open Go.RowKit Go.Lib
def bC(rows:List b8):List Value:=rows.map fun r=>.int .i64 (gd r 0).int
theorem mY(rows:List b8):(bC rows).length=rows.length:=by simp[bC]
theorem vI(a b:List b8):bC (a++b)=bC a++bC b:=by simp[bC]
theorem Wj(rows:List b8)(i:Nat):bC (rows.take i)=(bC rows).take i:=by simp[bC]
theorem Xw(rows:List b8)(i:Nat):bC (rows.drop i)=(bC rows).drop i:=by simp[bC]
theorem OX(rows:List b8)(i:Nat)(h:i<rows.length):(bC rows)[i]?=some (.int .i64 (gd (rows.getD i []) 0).int):=by simp[bC,g9 h,g4]
theorem qK(rows:List b8):∀v∈bC rows,v.oneCell'=true:=fun v hv=>by obtain⟨r,_,rfl⟩:=A8.1 hv;rfl
theorem Ly{w:World}{rows:List b8}{b cap n:Nat}{J:Array Value}(U:w.heap[b]?=some (.cells J 3 (0,0)))(V:n=rows.length)(y:J.size=cap)(O:rows.length<=cap)(M:cap<=9223372036854775807)
  (hc:∀(k:Nat) v,(bC rows)[k]?=some v->J[k]?=some v):eh w 3 [.int .i64] rows (.slice (some ⟨b,0,none⟩) n cap) (some b):=by
 subst V;refine .inr ⟨b,cap,J,rfl,rfl,O,M,U,by rw[y];exact (I7 _).symm,fun i j s hi y=>?_⟩
 match j,y with
 | 0,y =>
  injection y with y
  subst y;exact⟨_,by rw[show i * [S.int .i64].length+0=i from I7 i];exact hc i _ (OX rows i hi),rfl⟩
theorem Nc{w:World}{rows:List b8}{u:Value}{B:Option Nat}(h:eh w 3 [.int .i64] rows u B):(B=none/\rows = []/\∃A,u=.slice A 0 0) \/
  ∃(b cap:Nat) (y:Array Value),B=some b/\u=.slice (some ⟨b,0,none⟩) rows.length cap/\rows.length<=cap/\cap<=9223372036854775807/\w.heap[b]?=some (.cells y 3 (0,0))/\y.size=cap /\
   ∀(k:Nat) v,(bC rows)[k]?=some v->y[k]?=some v:=by
 rcases h with h | ⟨b,cap,y,h1,h2,h3,h4,h5,h6,h7⟩
 ·exact .inl h
 ·refine .inr ⟨b,cap,y,h1,h2,h3,h4,h5,h6.trans (I7 _),fun k v hk=>?_⟩;have J:=(g7.1 hk).1;rw[mY] at J;rw[OX rows k J] at hk;obtain⟨u,M,O⟩:=h7 k 0 (.int .i64) J rfl;rw[show k * [S.int .i64].length+0=k from I7 k] at M;rw[M,<- hk];exact congrArg some O
theorem HV{w:World}{e:TypeId}{rows y:List b8}{u:Value}{B:Option Nat}(h:eh w e [.int .i64] rows u B)(W:rows.map (fun r=>(gd r 0).int)=y.map (fun r=>(gd r 0).int)):eh w e [.int .i64] y u B:=by
 have hl:rows.length=y.length:=by simpa using congrArg List.length W
 rcases h with⟨h1,M,V⟩ | ⟨b,cap,arr,h1,M,V,h4,h5,h6,h7⟩
 ·exact .inl ⟨h1,v7 (by rw[<- hl,M];rfl),V⟩
 ·refine .inr ⟨b,cap,arr,h1,by rw[<- hl];exact M,by omega,h4,h5,h6,fun i j s hi J=>?_⟩
  match j,J with
  | 0,J =>
   injection J with J
   subst J;obtain⟨U,Y,O⟩:=h7 i 0 (.int .i64) (by omega) rfl;refine⟨U,Y,?_⟩;have e1:(rows.map (fun r=>(gd r 0).int))[i]?=(y.map (fun r=>(gd r 0).int))[i]?:=by rw[W]
   rw[w9,w9,g9 (by omega),g9 hi] at e1;have e2:(gd (rows.getD i []) 0).int=(gd (y.getD i []) 0).int:=by simpa [g4,g9 (show i<rows.length by omega),g9 hi] using e1
   have O:U=.int .i64 (gd (rows.getD i []) 0).int:=O;show U=.int .i64 (gd (y.getD i []) 0).int;rw[O,e2]
theorem afY{w:World}{rows:List b8}{r:b8}{base:Option Addr}{n c:Nat}{B:Option Nat}(hO:eh w 3 [.int .i64] rows (.slice base n c) B)(V y vc:Nat)(hn:rows.length<=1000000)
  (hv:∀(k:Nat) v,(bC [r])[k]?=some v->w.cell? ⟨V,y+k,none⟩=some v) :
  ∃v' w1 B',(∀U,(Builtin.append_ #[26,26] U #[.slice base n c,.slice (some ⟨V,y,none⟩) 1 vc]).run f8 w=.ok v' w1)/\aM w w1 B/\eh w1 3 [.int .i64] (rows ++ [r]) v' B'/\∀b,B'=some b->B=some b\/w.heap.size<=b:=by
 obtain⟨i0,Y,a2,O,a0⟩:=info_parts HI.info_int;have W:(bC [r]).length=1*i0.size:=by rw[O];rfl
 have J:∀(j:Nat) v,(bC [r])[j]?=some v->w.cell? ((⟨V,y,none⟩:Addr).add j)=some v:=fun j v hj=>by rw[C1];exact hv j v hj
 have a7:HI.zi.cells.size=1:=rfl
 -- a new block
 have a3:∀(old:Nat),(w.drew.alloc (.cells ((bC rows).toArray++(bC [r]).toArray++Builtin.zeroCells HI.zi.cells (grownCap w (rows.length+1) old 3 - (rows.length+1))) 3)).heap.size=w.heap.size+1 /\
   aM w (w.drew.alloc (.cells ((bC rows).toArray++(bC [r]).toArray++Builtin.zeroCells HI.zi.cells (grownCap w (rows.length+1) old 3 - (rows.length+1))) 3)) B /\
   eh (w.drew.alloc (.cells ((bC rows).toArray++(bC [r]).toArray++Builtin.zeroCells HI.zi.cells (grownCap w (rows.length+1) old 3 - (rows.length+1))) 3)) 3 [.int .i64] (rows ++ [r]) (.slice (some ⟨w.heap.size,0,none⟩) (rows.length+1) (grownCap w (rows.length+1) old 3)) (some w.heap.size):=by
  intro old;have a1:=grownCap_ge w (rows.length+1) old 3;have a6:=grownCap_le_maxLen w (rows.length+1) old 3 (by unfold maxLen;omega);refine⟨by simp[World.alloc],⟨rfl,rfl,rfl,by simp[World.alloc],fun k hk _=>Below.heap_alloc w.drew _ k hk⟩,Ly (by letI:Low:=Dy;exact gH w.drew _) (by simp) ?_ (by simpa using a1) (by unfold maxLen at a6;omega) fun k v hk=>?_⟩
  ·simp only[D2,B8,mY,size_zeroCells,a7,D8,z8];omega
  ·rw[vI] at hk;have a8:=(g7.1 hk).1;rw[v5 (by simpa using a8)];simpa using hk
 have b3:B=none->rows = []/\n=0/\c=0:=by
  rintro rfl;rcases hO with⟨_,h0,A,hA⟩ | ⟨_,_,_,M,_⟩
  ·injection hA with _ e1 e2;exact⟨h0,e1,e2⟩
  ·cases M
 rcases Nc hO with⟨rfl,rfl,A,hA⟩ | ⟨b,cap,arr,rfl,hA,hle,h63,hh,hs,hc⟩
 ·injection hA with e0 e1 e2
  subst e0 e1 e2;obtain⟨_,q2,q3⟩:=a3 0;refine⟨_,_,some w.heap.size,fun U=>?_,q2,q3,fun b M=>.inr (by injection M with M;omega)⟩;cases base with
  | none =>have:=run_append_nil (P:=f8) w 26 U 3 i0 HI.zi Tryz.underlying26 Y a2 ⟨V,y,none⟩ 1 vc (bC [r]) W J (by omega) (by omega) (by rw[a0];omega);rw[this];simp[bC]
  | some a =>have:=run_append_grow (P:=f8) w 26 U 3 i0 HI.zi Tryz.underlying26 Y a2 a 0 0 [] (by simp) (fun j v hj=>by simp at hj) ⟨V,y,none⟩ 1 vc (bC [r]) W J (by omega) (by omega) (by rw[a0];exact growslice_fits (by omega) (by omega));rw[this];rfl
 ·injection hA with e0 e1 e2
  subst e0 e1 e2;by_cases Z:rows.length+1<=c
  ·have a5:rows.length*i0.size+(bC [r]).length<=arr.size:=by rw[O,hs];show _+1<=_;omega
   have b2:(bC [r]).length=1:=rfl;have b1:(bC rows).length=rows.length:=mY rows;refine⟨_,_,some b,fun U=>run_append_room (P:=f8) w 26 U 3 i0 Tryz.underlying26 Y b rows.length c arr hh ⟨V,y,none⟩ 1 vc (bC [r]) W J (qK _) Z a5,⟨rfl,rfl,rfl,by simp,fun k _ hk=>setRow_other w b k _ (fun e=>hk (by rw[e]))⟩,?_,fun b M=>.inl M⟩;refine Ly (setRow_heap w b arr _ _ _ hh) (by simp) ?_ (by simpa using Z) h63 fun k v hk=>?_
   ·simp only[B8,i6,w5,v9,F7,b2,O];omega
   ·rw[vI,A5] at hk;rw[G6,C0,A5,O,I7];have b0:(arr.toList.take (rows.length)).length=rows.length:=by have e0:arr.toList.length=arr.size:=F7;rw[w5,e0,hs];omega
    rw[b0];rw[b1] at hk
    split at hk
    ·rename_i a4;rw[m6 a4,u9,m6 a4,M9];exact hc k v (by exact hk)
    ·rename_i a1;rw[j7 a1,z9 (g7.1 hk).1];exact hk
  ·obtain⟨_,q2,q3⟩:=a3 c;refine⟨_,_,some w.heap.size,fun U=>?_,q2,q3,fun b M=>.inr (by injection M with M;omega)⟩;exact run_append_grow (P:=f8) w 26 U 3 i0 HI.zi Tryz.underlying26 Y a2 ⟨b,0,none⟩ rows.length c (bC rows) (by rw[mY,O,I7]) (fun j v hj=>by rw[C1,m0,eW hh];exact hc j v hj) ⟨V,y,none⟩ 1 vc (bC [r]) W J (by omega) (by omega) (by rw[a0];exact growslice_fits (by omega) (by omega))
theorem MN(rows:List b8)(i:Nat)(r:b8)(hi:i<=rows.length){k:Nat}{v:Value}(hk:(bC (eb rows i r))[k]?=some v) :
  (k<i/\(bC rows)[k]?=some v)\/(i<=k/\k<(i+1)/\(bC [r])[k - i]?=some v)\/((i+1)<=k/\((bC rows).drop (i))[k - (i+1)]?=some v):=by
 have M:((bC rows).take (i)).length=i:=by rw[w5,mY];omega
 unfold eb at hk;rw[vI,Wj,show r::rows.drop i = [r]++rows.drop i from rfl,vI,Xw,A5,M] at hk
 split at hk
 ·rename_i y;rw[u9,m6 y] at hk;exact .inl ⟨y,hk⟩
 ·rename_i O;rw[A5] at hk
  split at hk
  ·rename_i y;have y:k - i<1:=y;exact .inr (.inl ⟨by omega,by omega,hk⟩)
  ·rename_i J;have J:¬k - i<1:=J;refine .inr (.inr ⟨by omega,?_⟩);rw[show k - (i+1)=k - i - (bC [r]).length from by show _=_ - 1;omega];exact hk
theorem akv{w:World}{x:D}{u:Value}{B:Option Nat}(hO:eh w 3 [.int .i64] x.rows u B)(r0:b8)(i O vc:Nat)(Y:Array Value)(vE:TypeId)(h1:(x.rows.length:Int)<=1000000)(f1:(i:Int)<=(x.rows.length:Int))
  (a0:w.heap[O]?=some (.cells Y vE (0,0))) (e9:Y[0]?=some (.int .i64 (gd r0 0).int)) (hB:B≠some O) :
  Calls f8 195 #[u,.int .i64 (i:Int),.slice (some ⟨O,0,none⟩) 1 vc] w fun ex w'=>∃v' B',ex=.returned v'/\aM w w' B/\eh w' 3 [.int .i64] (eb x.rows i r0) v' B'/\∀b,B'=some b->B=some b\/w.heap.size<=b:=by
 have a8:∀(k:Nat) v,(bC [r0])[k]?=some v->w.cell? ⟨O,0+k,none⟩=some v:=fun k v hk=>by
  have c6:=(g7.1 hk).1;have c6:k<1:=c6;obtain rfl:k=0:=by omega
  rw[eW a0,<- hk];exact e9
 by_cases a6:i=x.rows.length
 ·have d7:eb x.rows i r0=x.rows ++ [r0]:=by unfold eb;rw[a6];simp
  rw[d7];have b5:∃base c,u=.slice base x.rows.length c/\x.rows.length<=c/\c<=9223372036854775807/\(base=none->c=0):=by
   rcases Nc hO with⟨_,h0,A,rfl⟩ | ⟨b,cap,arr,rfl,rfl,V,J,_⟩
   ·exact⟨A,0,by rw[h0];rfl,by rw[h0];simp,by omega,fun _=>rfl⟩
   ·exact⟨_,cap,rfl,V,J,fun h=>by cases h⟩
  obtain⟨base,c,rfl,V,J,f0⟩:=b5;obtain⟨v',w1,B',k1,k2,k3,k4⟩:=afY hO O 0 vc (by omega) a8;rw[a6];refine (HI.ins_end base x.rows.length c O 0 vc w w1 v' V J f0 k1).mono ?_;rintro ex w' ⟨rfl,rfl⟩;exact⟨_,B',rfl,k2,k3,k4⟩
 ·have U:i<x.rows.length:=by omega
  rcases Nc hO with⟨_,h0,_⟩ | ⟨b,cap,arr,rfl,rfl,V,J,hh,hs,hc⟩
  ·rw[h0] at U;simp at U
  ·have e0:O≠b:=by rintro rfl;exact hB rfl
   obtain⟨n,hn⟩:∃n,n=x.rows.length:=⟨_,rfl⟩;rw[<- hn] at V U ⊢;have a5:(bC x.rows).length=n:=by rw[mY,hn]
   have c8:∀(j:Nat) v,(bC x.rows)[j]?=some v->w.cell? ⟨b,0+j,none⟩=some v:=fun j v hj=>by rw[m0,eW hh];exact hc j v hj
   have c9:(eb x.rows i r0).length=n+1:=by simp[eb];omega
   have d6:((bC x.rows).drop (i)).length=(n - i):=by rw[v9,a5]
   have b0:(bC [r0]).length=1:=rfl;by_cases b6:n+1<=cap
   ·have:=HI.ins_shift b 0 n cap i (i+1) O 0 vc (bC x.rows) (bC [r0]) w rfl U b6 J e0 a5 rfl c8
     (fun j hj=>by rw[m0,eW hh,n8 (by omega)];rfl) (fun j _=>iC hh _) a8 (qK _) (qK _) vE 3 Y.size arr.size (by simp[World.shape?,a0]) (by simp[World.shape?,hh]) (by omega) (iC a0 _) (iC a0 _)
    refine this.mono ?_;rintro ex w' ⟨rfl,rfl⟩;obtain⟨Z,a1,a2,a3,a4⟩:=bP b 3 (0,0) ((bC x.rows).drop (i)) (0+(i+1)) w.drew arr hh (by rw[d6,hs];omega);obtain⟨d8,b1,b2,b3,b4⟩:=bP b 3 (0,0) (bC [r0]) (0+i) _ Z a1 (by rw[b0,a2,hs];omega);obtain⟨c1,c2,c3,c4,c5⟩:=bE b ((bC x.rows).drop (i)) (0+(i+1)) w.drew;obtain⟨d1,d2,d3,d4,d5⟩:=bE b (bC [r0]) (0+i) (w.drew.setCells b (0+(i+1)) ((bC x.rows).drop (i)));refine⟨_,some b,rfl,⟨d1.trans c1,d2.trans c2,d3.trans c3,D5 (d4.trans c4).symm,fun k _ hk=>(d5 k (fun e=>hk (by rw[e]))).trans (c5 k (fun e=>hk (by rw[e])))⟩,?_,fun b hb=>.inl hb⟩;refine Ly b1 c9.symm (by rw[b2,a2,hs]) (by omega) J fun k v hk=>?_
    rcases MN x.rows i r0 (by omega) hk with⟨q1,M⟩ | ⟨q1,M,q3⟩ | ⟨q1,M⟩
    ·rw[b3 k (.inl (by omega)),a3 k (.inl (by omega))];exact hc k v M
    ·have:=b4 _ v q3
     rwa [show 0+i+(k - i)=k from by omega] at this
    ·rw[b3 k (.inr (by rw[b0];omega))];have:=a4 _ v M
     rwa [show 0+(i+1)+(k - (i+1))=k from by omega] at this
   ·obtain rfl:cap=n:=by omega
    have:=HI.ins_grow b 0 cap i (i+1) O 0 vc (bC x.rows) (bC [r0]) w rfl U (by omega) a5 rfl c8 a8 (qK _) (qK _);refine this.mono ?_;rintro ex w' ⟨rfl,rfl⟩;have e7:=grownCap_ge w (cap+1) cap 3;have c0:=grownCap_le_maxLen w (cap+1) cap 3 (by unfold maxLen;omega);obtain⟨G,hG⟩:∃G,G=grownCap w (cap+1) cap 3:=⟨_,rfl⟩;rw[<- hG] at e7 c0 ⊢;have e6:HI.zi.cells.size=1:=rfl;obtain⟨y,W⟩:∃y:Array Value,y=((bC x.rows).take (i)).toArray++Builtin.zeroCells HI.zi.cells (cap+1 - i)++Builtin.zeroCells HI.zi.cells (G - (cap+1)):=⟨_,rfl⟩;have c7:((bC x.rows).take (i)).length=i:=by rw[w5,a5];omega
    have a7:y.size=G:=by rw[W];simp only[D2,B8,c7,size_zeroCells,e6];omega
    have e8:∀(k:Nat) v,k<i->(bC x.rows)[k]?=some v->y[k]?=some v:=fun k v hk hv=>by rw[W,J7,v5 (by simp only[B8,c7];exact hk)];simp[u9,hk,hv]
    rw[<- W];have hW:((w.alloc (.cells y 3)).drew).heap[w.heap.size]?=some (.cells y 3 (0,0)):=by letI:Low:=Dy;exact gH w _
    obtain⟨Z,a1,a2,a3,a4⟩:=bP w.heap.size 3 (0,0) (bC [r0]) (i) _ y hW (by rw[b0,a7];omega);obtain⟨d8,b1,b2,b3,b4⟩:=bP w.heap.size 3 (0,0) ((bC x.rows).drop (i)) ((i+1)) ((((w.alloc (.cells y 3)).drew).setCells w.heap.size (i) (bC [r0])).drew) Z a1 (by rw[d6,a2,a7];omega);obtain⟨c1,c2,c3,c4,c5⟩:=bE w.heap.size (bC [r0]) (i) ((w.alloc (.cells y 3)).drew);obtain⟨d1,d2,d3,d4,d5⟩:=bE w.heap.size ((bC x.rows).drop (i)) ((i+1)) ((((w.alloc (.cells y 3)).drew).setCells w.heap.size (i) (bC [r0])).drew);refine⟨_,some w.heap.size,rfl,⟨d1.trans c1,d2.trans c2,d3.trans c3,?_,fun k hk _=>(d5 k (by omega)).trans ((c5 k (by omega)).trans (Below.heap_alloc w _ k hk))⟩,?_,fun b hb=>.inr (by injection hb with hb;omega)⟩
    ·refine m8 ?_ (D5 (d4.trans c4).symm);show w.heap.size<=(w.heap.push _).size;rw[Array.size_push];omega
    ·refine Ly b1 c9.symm (by rw[b2,a2,a7]) (by omega) (by unfold maxLen at c0;omega) fun k v hk=>?_
     rcases MN x.rows i r0 (by omega) hk with⟨q1,M⟩ | ⟨q1,M,q3⟩ | ⟨q1,M⟩
     ·rw[b3 k (.inl (by omega)),a3 k (.inl (by omega))];exact e8 k v q1 M
     ·rw[b3 k (.inl (by omega))];have:=a4 _ v q3
      rwa [show i+(k - i)=k from by omega] at this
     ·have:=b4 _ v M
      rwa [show (i+1)+(k - (i+1))=k from by omega] at this
theorem LB:br f8 3=some [.int .i64]:=by kernel_rfl
def SG(B:Option Nat)(b:Nat):Nat:=if B=some b then 9223372036854775807 else 0
theorem acU{w:World}{x:D}{u:Value}{B:Option Nat}(U:eh w 3 [.int .i64] x.rows u B):VD f8 w (SG B) (.sl 3) x u:=by
 rcases U with⟨_,J,A,rfl⟩ | ⟨b,cap,arr,rfl,rfl,hle,h63,hh,hs,hc⟩
 ·have e:Value.slice A 0 0=.slice A x.rows.length 0:=by rw[J];rfl
  rw[e];exact .sl 3 x A 0 _ (fun _ _=>.bool true) LB (by rw[J];exact i8 _) (by omega) (fun i j hi=>by rw[J] at hi;simp at hi) (fun i j s hi=>by rw[J] at hi;simp at hi)
 ·refine .sl 3 x (some ⟨b,0,none⟩) cap _ (fun i _=>.int .i64 (gd (x.rows.getD i []) 0).int) LB hle h63 (fun i j hi y=>?_) (fun i j s hi y=>?_)
  ·have y:j<1:=y;obtain rfl:j=0:=by omega
   obtain⟨V,M,O⟩:=hc i 0 (.int .i64) hi rfl;refine⟨b,0,rfl,?_,?_⟩
   ·rw[eW hh,m0,M];exact congrArg some O
   ·unfold SG;rw[m6 rfl];show 0+(i*1+0)<_;omega
  ·match j,y with
   | 0,y =>
    injection y with y
    subst y;exact .int .i64 _
theorem JD{w:World}{e:TypeId}{row:List S}{rows:List b8}{u:Value}{B:Option Nat}(y:eh w e row rows u B)(b:Nat)(J:w.heap.size<=b):SG B b=0:=by
 unfold SG;rcases y with⟨rfl,_⟩ | ⟨b',cap,arr,rfl,_,_,_,hh,_⟩
 ·exact j7 (by simp)
 ·have:=aP hh;exact j7 (by intro h;injection h with h;omega)
theorem alR{w:World}{x:D}{u:Value}{B:Option Nat}(Z:eh w 3 [.int .i64] x.rows u B)(n:Int)(hz:(an x).Pairwise (· < ·))(hl:x.rows.length<=40000) :
  Calls f8 116 #[u,.int .i64 n] w fun e w'=>e=.returned (.tuple #[.int .i64 (bp x n:Int),.bool (bsB x n)])/\Below w.heap.size w w':=by
 have W:ahY.2 [⟨sd (.sl 3),[x]⟩,⟨ri,[.i n]⟩]=some (⟨.tup [.c (.d si),.c (.d (.bool))],[.i (bp x n:Int),.b (bsB x n)]⟩,lK x&&leI (x.rows.length:Int) 40000):=by kernel_rfl
 rw[CE hz,bi (show (x.rows.length:Int)<=40000 by omega)] at W;have s:=(acG _ _ W).n rfl;refine (s.2 w (SG B) #[u,.int .i64 n] ⟨rfl,fun j t y=>?_⟩ (JD Z)).mono ?_
 ·match j,y with
  | 0,y =>
   injection y with y
   subst y;exact⟨u,rfl,acU Z⟩
  | 1,y =>
   injection y with y
   subst y;exact⟨_,rfl,.int .i64 (.i n)⟩
 ·rintro e w' ⟨v,g',rfl,hr⟩;refine⟨?_,hr.below⟩;obtain⟨vs,rfl,V,hv⟩:=hr.val;obtain⟨u0,M,O⟩:=hv 0 _ rfl;obtain⟨u1,J,U⟩:=hv 1 _ rfl;have O:VD f8 w' g'.prot (.int .i64) (.i (bp x n:Int)) u0:=O;have U:VD f8 w' g'.prot .bool (.b (bsB x n)) u1:=U;have V:vs.size=2:=V
  congr 2
  refine Array.ext (by rw[V];rfl) fun i h1 Y=>?_
  have Y:i<2:=Y;have hi:i=0\/i=1:=by omega
  rcases hi with rfl | rfl
  ·rw[n8 h1] at M;injection M with M
   rw[M];cases O;rfl
  ·rw[n8 h1] at J;injection J with J
   rw[J];cases U;rfl
theorem aeS{w:World}{x:D}{u:Value}{B:Option Nat}(Z:eh w 3 [.int .i64] x.rows u B)(hl:x.rows.length<=40000) :
  Calls f8 163 #[u] w fun e w'=>∃Y W,e=.returned Y/\Below w.heap.size w w'/\eh w' 3 [.int .i64] x.rows Y W/\∀b,W=some b->w.heap.size<=b:=by
 have V:Lq.2 [⟨sd (.sl 3),[x]⟩]=some (⟨.one (.c (.own (0,0) true 3)),[.l x.rows]⟩,leI (x.rows.length:Int) 1000000000):=by kernel_rfl
 rw[bi (show (x.rows.length:Int)<=1000000000 by omega)] at V;have s:=(Ih _ _ V).n rfl;refine (s.2 w (SG B) #[u] ⟨rfl,fun j t M=>?_⟩ (JD Z)).mono ?_
 ·match j,M with
  | 0,M =>
   injection M with M
   subst M;exact⟨u,rfl,acU Z⟩
 ·rintro e w' ⟨v,g',rfl,U⟩;obtain⟨row,y,hv⟩:=U.val;rw[LB] at y;injection y with y
  subst y;rcases hv with⟨h0,_,A,rfl⟩ | ⟨cap,arr,E,rfl,k1,⟨k2,rfl,_⟩,k3,k4,k5,k6,k7,k8,k9,k10⟩
  ·exact⟨_,none,rfl,U.below,.inl ⟨rfl,h0,A,rfl⟩,fun b O=>by cases O⟩
  ·refine⟨_,some (g'.ρ (0,0)),rfl,U.below,.inr ⟨_,cap,arr,rfl,rfl,k1,k2,k5,k6,fun i j s hi J=>?_⟩,fun b O=>by injection O with O;omega⟩;obtain⟨u',q1,q2⟩:=k10 i j s hi J
   match j,J with
   | 0,J =>
    injection J with J
    subst J;exact⟨u',q1,(q2.vd rfl).fv rfl⟩
theorem abp{P:Program}{w:World}{e:TypeId}{k:Nat}{x:D}{u:Value}{B:Option Nat}(prot:Nat->Nat)(y:br P e=some (oF k))(Y:eh w e (oF k) x.rows u B):∃n,VD P w (fun b=>if B=some b then n else prot b) (.sl e) x u:=by
 rcases Y with⟨_,J,A,rfl⟩ | ⟨b,cap,arr,rfl,rfl,hle,h63,hh,hs,hc⟩
 ·have W:Value.slice A 0 0=.slice A x.rows.length 0:=by rw[J];rfl
  rw[W];exact⟨0,.sl e x A 0 _ (fun _ _=>.bool true) y (by rw[J];exact i8 _) (by omega) (fun i j hi=>by rw[J] at hi;simp at hi) (fun i j s hi=>by rw[J] at hi;simp at hi)⟩
 ·refine⟨arr.size,.sl e x (some ⟨b,0,none⟩) cap _ (fun i j=>.int .i64 (gd (x.rows.getD i []) j).int) y hle h63 (fun i j hi O=>?_) (fun i j s hi O=>?_)⟩
  ·obtain⟨Z,U,V⟩:=hc i j (.int .i64) hi (by rw[g9 O];simp);refine⟨b,0,rfl,?_,?_⟩
   ·rw[eW hh,m0,U];exact congrArg some V
   ·show 0+(i*(oF k).length+j)<if some b=some b then arr.size else prot b
    rw[m6 rfl];have:=(v8.1 U).1;omega
  ·obtain⟨h1,M⟩:=g7.1 O;have M:S.int .i64=s:=by simpa using M
   subst M;exact .int .i64 _
theorem Xf{P:Program}{prot:Nat->Nat}{w w':World}{e:TypeId}{k:Nat}{y:D}{v:Value}{g':G}(U:br P e=some (oF k))(Y:Res P prot w w' ⟨.one (.c (.own (0,0) true e)),[y]⟩ v g'):∃V,eh w' e (oF k) y.rows v V/\∀b,V=some b->w.heap.size<=b:=by
 obtain⟨row,J,hv⟩:=Y.val;rw[U] at J;injection J with J;subst J;rcases hv with⟨Z,_,A,rfl⟩ | ⟨cap,arr,E,rfl,k1,⟨k2,rfl,_⟩,k3,k4,k5,k6,k7,k8,k9,k10⟩
 ·exact⟨none,.inl ⟨rfl,Z,A,rfl⟩,fun b M=>by cases M⟩
 ·refine⟨some (g'.ρ (0,0)),.inr ⟨_,cap,arr,rfl,rfl,k1,k2,k5,k6,fun i j s hi W=>?_⟩,fun b M=>by injection M with M;omega⟩;obtain⟨u',q1,q2⟩:=k10 i j s hi W;obtain⟨h1,O⟩:=g7.1 W;have O:S.int .i64=s:=by simpa using O
  subst O;exact⟨u',q1,(q2.vd rfl).fv rfl⟩
theorem aiG{P:Program}{prot:Nat->Nat}{w:World}{q:b8}{J:Array Value}(h:lq P prot w [⟨ri,q⟩] J):J = #[.int .i64 (gd q 0).int]:=by
 refine pX h [.int .i64 (gd q 0).int] rfl fun j t u h1 O=>?_
 obtain⟨U,y,M⟩:=h.2 j t h1;rw[O] at y;injection y with y;subst y
 match j,h1 with
 | 0,h1 =>
  injection h1 with h1;subst h1
  have:=vl (k:=.i64) (show VD P w prot (.int .i64) (gd q 0) u from M);rw[this];rfl
theorem agP{z:D}(h:(an z).Pairwise (· < ·)){n:Int}(U:bsB z n=false):(eb z.rows (bp z n) [.i n]).map (fun r=>(gd r 0).int)=Xc (an z) n:=by
 obtain⟨h1,Y,Z⟩:=LS h n;have W:∀y∈(an z).take (bp z n),y<n:=fun y M=>by obtain⟨k,hk,rfl⟩:=t9 M;rw[w5] at hk;have:=dC z k (by rw[cr] at hk;omega);have a:=Y k (by omega);rw[M4];obtain⟨_,e⟩:=g7.1 this;rw[e];exact a
 have J:∀y∈(an z).drop (bp z n),n<y:=fun y M=>by
  obtain⟨k,hk,rfl⟩:=t9 M;rw[v9,cr] at hk;have:=dC z (bp z n+k) (by omega);rw[M5];obtain⟨_,e⟩:=g7.1 this;rw[e];have a:=Z (bp z n) (i8 _) (by omega);have a0:bT z (bp z n)≠n:=fun e=>by unfold bsB at U;rw[gy (show bp z n<z.rows.length by omega),e,s9] at U;cases U
  rcases E0 k with hk0 | hk0
  ·subst hk0;show n<bT z (bp z n);omega
  ·have b:=LC h (show bp z n<bp z n+k by omega) (show bp z n+k<z.rows.length by omega);show n<bT z (bp z n+k);omega
 have e:(eb z.rows (bp z n) [.i n]).map (fun r=>(gd r 0).int)=(an z).take (bp z n)++n::(an z).drop (bp z n):=by unfold eb an;rw[y8,w8,N6,N7];rfl
 rw[e];refine Tt ?_ (MT h n) fun m=>?_
 ·rw[G1,H5];refine⟨h.sublist (List.take_sublist _ _),⟨fun a V=>J a V,h.sublist (List.drop_sublist _ _)⟩,fun a V b O=>?_⟩;have:=W a V;rcases B5.1 O with rfl | O
  ·exact this
  ·have:=J b O;omega
 ·rw[yu,n3,B5];constructor
  ·rintro (h | h | h)
   ·exact .inr (K2 h)
   ·exact .inl h
   ·exact .inr (D1 h)
  ·rintro (h | h)
   ·exact .inr (.inl h)
   ·rw[<- H3 (bp z n) (an z),n3] at h;rcases h with h | h
    ·exact .inl h
    ·exact .inr (.inr h)
theorem agx{z:D}(h:(an z).Pairwise (· < ·)){n:Int}(y:bsB z n=true):Xc (an z) n=an z:=by
 unfold bsB at y;simp only[a9,ltI,g5,u7] at y;have hm:n∈an z:=by have h1:=dC z (bp z n) (by omega);rw[show (gd (z.rows.getD (bp z n) []) 0).int=n from y.2] at h1;exact A2 h1
 refine Tt (MT h n) h fun m=>?_
 rw[yu];constructor
 ·rintro (rfl | h)
  ·exact hm
  ·exact h
 ·exact .inr
theorem Ma{w:World}{x:D}{u:Value}{B:Option Nat}(hO:eh w 3 [.int .i64] x.rows u B)(n:Int)(hz:(an x).Pairwise (· < ·))(hl:x.rows.length<=40000) :
  Calls f8 79 #[u,.int .i64 n] w fun ex w'=>∃v' B',ex=.returned v'/\aM w w' B/\eh w' 3 [.int .i64] (bQ x (.i n)).rows v' B'/\∀b,B'=some b->B=some b\/w.heap.size<=b:=by
 have M:=alR hO n hz hl;have HO:Hid (eh w 3 [.int .i64] x.rows u B):=hO;have V:Hid ((an x).Pairwise (· < ·)):=hz;clear hO hz;cases O:bsB x n with
 | true =>
  rw[O] at M;have HF:Hid (bsB x n=true):=O;clear O;go_enter Tryz.func79,Tryz.ntmps79
  go_wp2_with fail
  refine M.mono ?_;rintro e w' ⟨rfl,y⟩;go_wp2
  go_ret
  refine⟨u,B,rfl,.of_below B y,HV (io HO.out y) ?_,fun b y=>.inl y⟩;show an x=an (bQ x (.i n));rw[gG V.out];exact (agx V.out HF.out).symm
 | false =>
  rw[O] at M;have HF:Hid (bsB x n=false):=O;have a4:=(LS V.out n).1;clear O;go_enter Tryz.func79,Tryz.ntmps79
  go_wp2_with fail
  refine M.mono ?_;rintro e w1 ⟨rfl,y⟩
  go_wp2_with fail
  refine (aeS (io HO.out y) hl).mono ?_;rintro e J ⟨v2,B2,rfl,Z,Y,W⟩
  go_wp2_with fail
  have a0:(J.alloc (.cells #[.int .i64 n] 3)).heap[J.heap.size]?=some (.cells #[.int .i64 n] 3 (0,0)):=by letI:Low:=Dy;exact gH J _
  have U:Below J.heap.size J (J.alloc (.cells #[.int .i64 n] 3)):=(Below.refl _ J).alloc (i8 _) _;refine (akv (io Y U) [.i n] (bp x n) J.heap.size 1 _ _ (by omega) (by omega) a0 rfl (fun e=>?_)).mono ?_
  ·rcases Y with⟨h0,_⟩ | ⟨b',cap,arr,h0,_,_,_,hh,_⟩
   ·rw[h0] at e;cases e
   ·rw[h0] at e;injection e with e
    have:=aP hh;omega
  rintro e w4 ⟨v4,B4,rfl,a2,a3,a1⟩;go_wp2
  go_ret
  have s1:=y.size;have s2:=Z.size;have s3:=U.size;refine⟨v4,B4,rfl,(((aM.of_below B y).trans (.of_below none Z) (fun b h=>by cases h)).trans (.of_below none U) (fun b h=>by cases h)).trans a2 (fun b h=>.inr (by have:=W b h;omega)),HV a3 ?_,fun b h=>.inr ?_⟩
  ·show _=an (bQ x (.i n));rw[gG V.out];exact agP V.out HF.out
  ·rcases a1 b h with h | h
   ·have:=W b h;omega
   ·omega
def sm:Ent:=(79,e2 (sd (.sl 3)) ri fun p q=>(⟨.tup [.agg [.any]],[bQ (gd p 0) (gd q 0)]⟩,lK (gd p 0)&&leI ((gd p 0).rows.length:Int) 40000))
theorem sV:ay f8 sm:=bm fun p q h=>by
 have h:(lK (gd p 0)&&leI ((gd p 0).rows.length:Int) 40000)=true:=h;simp only[a9,leI,g5] at h;obtain⟨h1,O⟩:=h;refine aJ.ofK rfl ⟨cB Tryz.func79 (by kernel_rfl) (by kernel_rfl),fun e x rest row y J V w prot u B vs hO hB a0 M a1=>?_⟩;injection y with y hre
 injection y with y hp
 injection y with y
 injection y with y
 injection y with y
 injection y with y
 subst y hp hre;rw[LB] at J;injection J with J
 subst J;have U:=aiG (M w (aM.refl w B));subst U;have h1:lK x=true:=h1;have O:(x.rows.length:Int)<=40000:=O;refine (Ma hO (gd q 0).int (PK h1) (by omega)).mono ?_;rintro ex w' ⟨Y,Z,rfl,W,k2,k3⟩;refine⟨Y,Z,rfl,W,HV k2 ?_,k3⟩;show an (bQ x (.i (gd q 0).int))=an (bQ x (gd q 0));rw[gG (PK h1),gG (PK h1)];rfl
theorem tI:br f8 93=some (oF 4):=by kernel_rfl
def AF:Ent:=(78,e2 (sd (.sl 93)) ri fun p q=>(⟨.tup [.agg [.any]],[li (gd p 0) (gd q 0)]⟩,true))
theorem KB:ay f8 AF:=bm fun p q h=>by
 refine aJ.ofK rfl ⟨cB Tryz.func78 (by kernel_rfl) (by kernel_rfl),fun e x rest row y M a0 w prot u B vs W hB V U a1=>?_⟩;injection y with y hre
 injection y with y hp
 injection y with y
 injection y with y
 injection y with y
 injection y with y
 subst y hp hre;rw[tI] at M;injection M with M
 subst M;have Z:=aiG (U w (aM.refl w B));subst Z;obtain⟨n,hn⟩:=abp prot tI W;have s:=(Pf [⟨sd (.sl 93),[x]⟩,⟨ri,q⟩] ⟨.one (.c (.own (0,0) true 93)),[li x (gd q 0)]⟩ (by kernel_rfl)).n rfl;refine (s.2 w (fun b=>if B=some b then n else prot b) #[u,.int .i64 (gd q 0).int] ⟨rfl,fun j t J=>?_⟩ fun b O=>?_).mono ?_
 ·match j,J with
  | 0,J =>
   injection J with J
   subst J;exact⟨u,rfl,hn⟩
  | 1,J =>
   injection J with J
   subst J;exact⟨_,rfl,.int .i64 _⟩
 ·rcases W with⟨rfl,_⟩ | ⟨b',cap,arr,rfl,_,_,_,hh,_⟩
  ·rw[j7 (by simp)];exact V b O
  ·have:=aP hh;rw[j7 (by intro h;injection h with h;omega)];exact V b O
 ·rintro ex w' ⟨v,g',rfl,Y⟩;obtain⟨B',k1,k2⟩:=Xf tI Y;exact⟨v,B',rfl,.of_below B Y.below,k1,fun b O=>.inr (k2 b O)⟩
set_option maxRecDepth 4096
set_option maxHeartbeats 1000000
abbrev kT:=find [rI,fD]
abbrev kN:=[0,1,2,4,6,7,8,9,10,11,12,13,14,22,28,42,53,62,72,82,91]
def ld(N:Nat)(p q r:b8):b8->Out:=bb f8 kT N kN Tryz.f186 (.tup [.c (.d (.sl 41)),.c (.d (.bool))]) [⟨sd (.sl 41),p⟩,⟨ag aI,q⟩,⟨rb,r⟩] 0
def kZ(N:Nat)(p q r:b8):b8->Out:=bb f8 kT N kN Tryz.f186 (.tup [.c (.d (.sl 41)),.c (.d (.bool))]) [⟨sd (.sl 41),p⟩,⟨ag aI,q⟩,⟨rb,r⟩] 2
def la(N:Nat)(p q r:b8):b8->Out:=bb f8 kT N kN Tryz.f186 (.tup [.c (.d (.sl 41)),.c (.d (.bool))]) [⟨sd (.sl 41),p⟩,⟨ag aI,q⟩,⟨rb,r⟩] 4
def kV(N:Nat)(p q r:b8):b8->Out:=bb f8 kT N kN Tryz.f186 (.tup [.c (.d (.sl 41)),.c (.d (.bool))]) [⟨sd (.sl 41),p⟩,⟨ag aI,q⟩,⟨rb,r⟩] 6
theorem IE(N:Nat)(p q r:b8)(J x1 Y V x4 Z x6 W x8 M U O:D):(ld N p q r) [J,x1,Y,V,x4,Z,x6,W,x8,M,U,O] =
 bif ltI M.int (J.rows.length:Int) then nd (ah M.int J.rows.length) ((let y:=aX (kZ N p q r) N [J,x1,Y,V,x4,Z,x6,W,x8,M,.b (ltI M.int (J.rows.length:Int)),gd (J.rows.getD M.int.toNat []) 0,U,O]
  nd y.isSome (nd (y.code==4) (nx [gd y.pay 0,gd y.pay 1,gd y.pay 2,gd y.pay 3,gd y.pay 4,gd y.pay 5,gd y.pay 6,gd y.pay 7,gd y.pay 8,.i (w64 ((gd y.pay 9).int+1)),gd y.pay 12,gd y.pay 13]))))
 else ex 0 [J,x1,Y,V,x4,Z,x6,W,x8,M,U,O]:=by kernel_rfl
theorem JH(N:Nat)(p q r:b8)(J x1 x2 Y x4 x5 x6 Z W U V y M O:D):(kZ N p q r) [J,x1,x2,Y,x4,x5,x6,Z,W,U,V,y,M,O] =
 nd (ah U.int J.rows.length) (bif ltI y.int (gd (J.rows.getD U.int.toNat []) 1).int then nd (ah y.int W.rows.length) (nx [J,x1,x2,Y,x4,x5,x6,Z,.l (W.rows.set y.int.toNat [.b true]),U,V,.i (w64 (y.int+1)),M,O])
 else ex 2 [J,x1,x2,Y,x4,x5,x6,Z,W,U,V,y,M,O]):=by kernel_rfl
theorem Jv(N:Nat)(p q r:b8)(V x1 Z O x4 x5 x6 Y U W y M J:D):(la N p q r) [V,x1,Z,O,x4,x5,x6,Y,U,W,y,M,J] =
 bif ltI y.int J.int then nd (ah y.int U.rows.length) (nx [V,x1,Z,O,x4,x5,x6,Y,.l (U.rows.set y.int.toNat [O]),W,.i (w64 (y.int+1)),M,J])
 else ex 4 [V,x1,Z,O,x4,x5,x6,Y,U,W,y,M,J]:=by kernel_rfl
theorem Ix(N:Nat)(p q r:b8)(Y x1 x2 Z x4 x5 x6 x7 O x9 V J M y W U:D):(kV N p q r) [Y,x1,x2,Z,x4,x5,x6,x7,O,x9,V,J,M,y,W,U] =
 bif leI y.int 1000 then nd (ah y.int O.rows.length) (bif (gd (O.rows.getD y.int.toNat []) 0).bool then bif ltI M.int 0 then nd (ah y.int O.rows.length) (bif !(gd (O.rows.getD y.int.toNat []) 0).bool then bif leI 0 y.int then nd (bl (J.rows ++ [[y,y]])&&true) (nx [Y,x1,x2,Z,x4,x5,x6,x7,O,x9,V,.l (J.rows ++ [[y,y]]),.i (-1),.i (w64 (y.int+1)),W,U])
 else nx [Y,x1,x2,Z,x4,x5,x6,x7,O,x9,V,J,y,.i (w64 (y.int+1)),W,U]
 else nx [Y,x1,x2,Z,x4,x5,x6,x7,O,x9,V,J,y,.i (w64 (y.int+1)),W,U])
 else nd (ah y.int O.rows.length) (bif !(gd (O.rows.getD y.int.toNat []) 0).bool then bif leI 0 M.int then nd (bl (J.rows ++ [[M,y]])&&true) (nx [Y,x1,x2,Z,x4,x5,x6,x7,O,x9,V,.l (J.rows ++ [[M,y]]),.i (-1),.i (w64 (y.int+1)),W,U])
 else nx [Y,x1,x2,Z,x4,x5,x6,x7,O,x9,V,J,M,.i (w64 (y.int+1)),W,U]
 else nx [Y,x1,x2,Z,x4,x5,x6,x7,O,x9,V,J,M,.i (w64 (y.int+1)),W,U])
 else nd (ah y.int O.rows.length) (bif !(gd (O.rows.getD y.int.toNat []) 0).bool then bif leI 0 M.int then nd (bl (J.rows ++ [[M,y]])&&true) (nx [Y,x1,x2,Z,x4,x5,x6,x7,O,x9,V,.l (J.rows ++ [[M,y]]),.i (-1),.i (w64 (y.int+1)),W,U])
 else nx [Y,x1,x2,Z,x4,x5,x6,x7,O,x9,V,J,M,.i (w64 (y.int+1)),W,U]
 else nx [Y,x1,x2,Z,x4,x5,x6,x7,O,x9,V,J,M,.i (w64 (y.int+1)),W,U]))
 else ex 6 [Y,x1,x2,Z,x4,x5,x6,x7,O,x9,V,J,M,y,W,U]:=by kernel_rfl
theorem lS(N:Nat)(p q r:b8):bf f8 kT N kN Tryz.f186 (.tup [.c (.d (.sl 41)),.c (.d (.bool))]) [⟨sd (.sl 41),p⟩,⟨ag aI,q⟩,⟨rb,r⟩]=some (bo,
 bif !(bB (gd p 0)) then some (1,[.l [],.b false])
 else bif !(ax (sub q 0 2)) then some (1,[.l [],.b false])
 else nd (leI 0 1001&&eqI 1001 1001&&leI 1001 4294967296&&true&&true) ((let y:=aX (ld N p q r) N [gd p 0,gd q 0,gd q 1,gd r 0,.i 0,.l [],.i 0,.b (!(ax (sub q 0 2))),.l (List.replicate 1001 [.b false]),.i 0,gd q 0,gd q 1]
  nd y.isSome (nd (y.code==2) ((let J:=aX (la N p q r) N [gd y.pay 0,gd y.pay 1,gd y.pay 2,gd y.pay 3,gd y.pay 4,gd y.pay 5,gd y.pay 6,gd y.pay 7,gd y.pay 8,gd y.pay 9,gd y.pay 10,gd y.pay 10,gd y.pay 11]
  nd J.isSome (nd (J.code==6) ((let M:=aX (kV N p q r) N [gd J.pay 0,gd J.pay 1,gd J.pay 2,gd J.pay 3,gd J.pay 4,gd J.pay 5,gd J.pay 6,gd J.pay 7,gd J.pay 8,gd J.pay 9,gd J.pay 10,.l [],.i (-1),.i 0,gd J.pay 11,gd J.pay 12]
   nd M.isSome (nd (M.code==8) (bif ltI 16 ((gd M.pay 11).rows.length:Int) then some (1,[.l [],.b false])
   else some (1,[gd M.pay 11,.b true])))))))))))):=by kernel_rfl
def inR(r:b8)(k:Nat):Bool:=leI (gd r 0).int (k:Int)&&ltI (k:Int) (gd r 1).int
def eC(C:Nat->D):List b8:=(List.range 1001).map fun k => [C k]
theorem qh(C:Nat->D):(eC C).length=1001:=by simp[eC]
theorem aeh{C:Nat->D}{k:Nat}(h:k<1001):(eC C).getD k [] = [C k]:=by rw[aZ (by rw[qh];exact h)];simp[eC]
theorem RS{C:Nat->D}{t:Nat}(v:D):(eC C).set t [v]=eC (fun k=>bif k==t then v else C k):=by
 apply List.ext_getElem
 ·rw[List.length_set,qh,qh]
 ·intro i h1 y;rw[List.getElem_set];simp only[eC,J3,L3];by_cases e:t=i
  ·subst e;simp
  ·rw[j7 e,show (i==t)=false from by simp;omega];rfl
theorem adh(v:D):List.replicate 1001 [v]=eC (fun _=>v):=by unfold eC;rw[List.map_const',I4]
theorem kX{C y:Nat->D}(h:∀k,C k=y k):eC C=eC y:=by have:C=y:=funext h;rw[this]
def KN(d:D):Nat->D
 | 0=>d
 | m+1=>.i (d.int+((m+1:Nat):Int))
theorem Fl(d:D):∀m,(KN d m).int=d.int+(m:Int)
 | 0=>by show d.int=d.int+0;omega
 | m+1=>rfl
def mb(z:D)(i k:Nat):Bool:=(List.range i).any fun j=>inR (z.rows.getD j []) k
theorem aec(z:D)(i k:Nat):mb z (i+1) k=(mb z i k||inR (z.rows.getD i []) k):=by unfold mb;rw[List.range_succ,List.any_append];simp
def tS(C:Nat->Bool):Nat->List b8 × Int
 | 0=>([],-1)
 | k+1=>bif C k then (bif ltI (tS C k).2 0 then ((tS C k).1,(k:Int)) else tS C k) else bif leI 0 (tS C k).2 then ((tS C k).1 ++ [[.i (tS C k).2,.i (k:Int)]],-1) else tS C k
theorem agJ(C:Nat->Bool):∀k,(tS C k).1.length<=k
 | 0=>i8 _
 | k+1=>by have:=agJ C k;rw[tS];cases C k <;> cases ltI (tS C k).2 0 <;> cases leI 0 (tS C k).2 <;> simp <;> omega
theorem Mc(o:List b8)(a b:D):mc (o ++ [[a,b]])=b.int:=by unfold mc;rw[i6];show (gd ((o ++ [[a,b]]).getD (o.length+1 - 1) []) 1).int=_;rw[L4,rX];rfl
theorem aiQ{o:List b8}{k:Int}(h:o = []\/mc o<k)(hi:Int):QS o k hi=o ++ [[.i k,.i hi]]:=by
 unfold QS;rcases h with rfl | h
 ·rfl
 ·rw[show (mc o==k)=false from by simp;omega,E4,f9]
theorem adJ(o:List b8)(f k hi:Int):QS (o ++ [[.i f,.i k]]) k hi=o ++ [[.i f,.i hi]]:=by unfold QS;rw[Mc,show ltI 0 ((o ++ [[D.i f,D.i k]]).length:Int)=true from B3 (by rw[i6];show (0:Int)<((o.length+1:Nat):Int);omega),show ((D.i k).int==k)=true from s9 k,u5,g6,i6];show (o ++ [[D.i f,D.i k]]).set (o.length+1 - 1) [gd ((o ++ [[D.i f,D.i k]]).getD (o.length+1 - 1) []) 0,.i hi]=_;rw[L4,rX,List.set_append_right _ _ (i8 _),Nat.sub_self];rfl
theorem afC(C:Nat->Bool):∀k,((tS C k).2 = -1/\kpR C k=(tS C k).1/\((tS C k).1 = []\/mc (tS C k).1<(k:Int)))\/(0<=(tS C k).2/\kpR C k=(tS C k).1 ++ [[.i (tS C k).2,.i (k:Int)]])
 | 0=>.inl ⟨rfl,rfl,.inl rfl⟩
 | k+1=>by
  have M:=afC C k;rw[kpR,tS];generalize tS C k=S at *;obtain⟨o,f⟩:=S;dsimp only at M ⊢;rcases M with⟨rfl,y,J⟩ | ⟨h1,y⟩
  ·cases C k
   ·rw[f9,f9,FX (show (-1:Int)<0 by omega),f9];refine .inl ⟨rfl,y,?_⟩;rcases J with J | J
    ·exact .inl J
    ·exact .inr (show mc o<_ by omega)
   ·rw[g6,g6,lp (show (-1:Int)<0 by omega),g6,y,aiQ J];exact .inr ⟨show (0:Int)<=(k:Int) by omega,rfl⟩
  ·cases C k
   ·rw[f9,f9,bi h1,g6];exact .inl ⟨rfl,y,.inr (by show mc (o ++ [[.i f,.i (k:Int)]])<_;rw[Mc];show (k:Int)<_;omega)⟩
   ·rw[g6,g6,iI h1,f9,y,adJ];exact .inr ⟨h1,rfl⟩
theorem SQ{C y:Nat->Bool}:∀ {n},(∀k,k<n->C k=y k)->kpR C n=kpR y n
 | 0,_=>rfl
 | n+1,h=>by rw[kpR,kpR,SQ (fun k hk=>h k (by omega)),h n (by omega)]
def jZ(z:D)(a:b8)(wi:D)(k:Nat):D:=bif inR a k then wi else .b (mb z z.rows.length k)
theorem Fw{z:D}(h:bB z=true){j:Nat}(y:j<z.rows.length):0<=(gd (z.rows.getD j []) 0).int/\(gd (z.rows.getD j []) 0).int<(gd (z.rows.getD j []) 1).int/\(gd (z.rows.getD j []) 1).int<=1000:=by
 simp only[bB,a9,i9,m7] at h;have h1:=h.1 j y;cases j with
 | zero =>simp only[iA,ax,a9,g5] at h1;exact⟨h1.1,h1.2.1,h1.2.2⟩
 | succ j =>simp only[iA,ax,a9,g5] at h1;exact⟨h1.1.1,h1.1.2.1,h1.1.2.2⟩
theorem UO{r:b8}(y:0<=(gd r 0).int)(h1:(gd r 0).int<(gd r 1).int)(J:(gd r 1).int<=1000)(k:Nat):inB (k:Int) (gd r 0).int (w64 ((gd r 1).int - 1))=inR r k:=by rw[bD (by omega) (by omega)];unfold inB inR leI ltI;rw[y0];simp only[a9,g5];omega
theorem aew{z:D}{a:b8}{wi:D}(hz:bB z=true)(J:ax (sub a 0 2)=true)(k:Nat):alU (.l [[.l [sub a 0 2],.l [[wi]],.l [[z]]]]) k=(jZ z a wi k).bool:=by
 simp only[ax,a9,g5] at J;show (amd z (sub a 0 2) wi (.i (k:Int))).bool=_;unfold amd jZ;rw[aA,UO (r:=sub a 0 2) J.1 J.2.1 J.2.2];show (bif inR a k then wi else _).bool=_;have e:eL (fun V=>afo (.l [[.l [[D.i (k:Int)]]]]) (sub V 0 2)) z=mb z z.rows.length k:=by
  unfold eL mb;rw[y0];simp only[D3,m7];constructor
  ·rintro⟨j,y,h⟩;obtain⟨U,M,O⟩:=Fw hz y;exact⟨j,y,by rw[<- UO U M O];exact h⟩
  ·rintro⟨j,y,h⟩;obtain⟨U,M,O⟩:=Fw hz y;exact⟨j,y,by rw[<- UO U M O] at h;exact h⟩
 rw[e]
theorem aja{z:D}{a:b8}{wi:D}(hz:bB z=true)(U:ax (sub a 0 2)=true):(tS (fun k=>(jZ z a wi k).bool) 1001).1=(Gz z a wi).rows:=by
 have J:=U;simp only[ax,a9,g5] at J;have O:(gd a 1).int<=1000:=J.2.2;have y:(jZ z a wi 1000).bool=false:=by unfold jZ;rw[show inR a 1000=false from by unfold inR;rw[iI (show (gd a 1).int<=((1000:Nat):Int) from O),E4],f9];show mb z z.rows.length 1000=false;unfold mb;rw[G9];intro j Y;obtain⟨Z,r2,V⟩:=Fw hz (m7.1 Y);unfold inR;rw[iI (show (gd (z.rows.getD j []) 1).int<=((1000:Nat):Int) from V),E4];exact Bool.false_ne_true
 have h:=afC (fun k=>(jZ z a wi k).bool) 1001;have W:=afC (fun k=>(jZ z a wi k).bool) 1000;have e1:tS (fun k=>(jZ z a wi k).bool) 1001=bif leI 0 (tS (fun k=>(jZ z a wi k).bool) 1000).2 then ((tS (fun k=>(jZ z a wi k).bool) 1000).1 ++ [[.i (tS (fun k=>(jZ z a wi k).bool) 1000).2,.i ((1000:Nat):Int)]],-1) else tS (fun k=>(jZ z a wi k).bool) 1000:=by rw[tS,y,f9]
 have e2:(Gz z a wi).rows=kpR (fun k=>(jZ z a wi k).bool) 1000:=by show kpR (alU (.l [[.l [sub a 0 2],.l [[wi]],.l [[z]]]])) 1000=_;exact SQ fun k _=>aew hz U k
 rw[e1,e2];rcases W with⟨h1,M,_⟩ | ⟨h1,M⟩
 ·rw[h1,FX (show (-1:Int)<0 by omega),f9];exact M.symm
 ·rw[bi h1,g6];exact M.symm
theorem ajk(N:Nat)(V:1001<N)(p q r:b8)(i lo n:Nat)(hi:i<(gd p 0).rows.length)(J:(gd ((gd p 0).rows.getD i []) 0).int=lo)(M:(gd ((gd p 0).rows.getD i []) 1).int=(lo:Int)+n)(U:lo+n<=1000) :
  aX (kZ N p q r) N [gd p 0,gd q 0,gd q 1,gd r 0,.i 0,.l [],.i 0,.b false,.l (eC fun k=>.b (mb (gd p 0) i k)),.i (i:Int),.b true,gd ((gd p 0).rows.getD i []) 0,gd q 0,gd q 1] =
  some (4,[gd p 0,gd q 0,gd q 1,gd r 0,.i 0,.l [],.i 0,.b false,.l (eC fun k=>.b (mb (gd p 0) (i+1) k)),.i (i:Int),.b true,KN (gd ((gd p 0).rows.getD i []) 0) n,gd q 0,gd q 1]):=by
 obtain⟨row,y⟩:∃row,row=(gd p 0).rows.getD i []:=⟨_,rfl⟩;rw[<- y] at J M ⊢;have O:=cJ (L:=kZ N p q r) (fun m => [gd p 0,gd q 0,gd q 1,gd r 0,.i 0,.l [],.i 0,.b false,.l (eC fun k=>.b (mb (gd p 0) i k||(decide (lo<=k)&&decide (k<lo+m)))),.i (i:Int),.b true,KN (gd row 0) m,gd q 0,gd q 1]) n 2 (fun m hm=>?_) ?_ (N:=N) (by omega)
 ·rw[show (eC fun k=>.b (mb (gd p 0) i k))=eC fun k=>.b (mb (gd p 0) i k||(decide (lo<=k)&&decide (k<lo+0))) from kX fun k=>by rw[show (decide (lo<=k)&&decide (k<lo+0))=false from by rw[Bool.and_eq_false_iff];simp;omega,N5]];rw[show (eC fun k=>.b (mb (gd p 0) (i+1) k))=eC fun k=>.b (mb (gd p 0) i k||(decide (lo<=k)&&decide (k<lo+n))) from kX fun k=>by
   rw[aec,<- y]
   congr 2
   unfold inR leI ltI;rw[J,M,y0];simp only[a9,g5];omega]
  exact O
 ·show kZ N p q r [_,_,_,_,_,_,_,_,_,.i (i:Int),_,KN (gd row 0) m,_,_]=_;rw[JH];rw[aA,bu hi,g8,<- y,Fl,J,M,lp (show (lo:Int)+(m:Int)<(lo:Int)+(n:Int) by omega),g6,bd];rw[show (lo:Int)+(m:Int)=((lo+m:Nat):Int) from by omega,bu (by rw[qh];omega),g8,RS,aG (show lo+m<1001 by omega) (by omega)];rw[show KN (gd row 0) (m+1)=.i ((lo+m+1:Nat):Int) from congrArg D.i (show (gd row 0).int+((m+1:Nat):Int)=((lo+m+1:Nat):Int) by omega)];rw[show (eC fun k=>bif k==lo+m then .b true else .b (mb (gd p 0) i k||(decide (lo<=k)&&decide (k<lo+m))))=eC fun k=>.b (mb (gd p 0) i k||(decide (lo<=k)&&decide (k<lo+(m+1)))) from kX fun k=>by
   by_cases hk:k=lo+m
   ·subst hk;rw[s9,g6,show (decide (lo<=lo+m)&&decide (lo+m<lo+(m+1)))=true from by simp,J8]
   ·rw[show (k==lo+m)=false from by simpa using hk,f9]
    congr 2
    rw[y0];simp only[a9,g5];omega]
 ·show kZ N p q r [_,_,_,_,_,_,_,_,_,.i (i:Int),_,KN (gd row 0) n,_,_]=_;rw[JH];rw[aA,bu hi,g8,<- y,Fl,J,M,iI (show (lo:Int)+(n:Int)<=(lo:Int)+(n:Int) by omega),f9]
theorem aks(N:Nat)(O:1001<N)(p q r:b8)(hz:bB (gd p 0)=true)(W:(gd p 0).rows.length<=16) :
  aX (ld N p q r) N [gd p 0,gd q 0,gd q 1,gd r 0,.i 0,.l [],.i 0,.b false,.l (eC fun k=>.b (mb (gd p 0) 0 k)),.i ((0:Nat):Int),gd q 0,gd q 1] =
  some (2,[gd p 0,gd q 0,gd q 1,gd r 0,.i 0,.l [],.i 0,.b false,.l (eC fun k=>.b (mb (gd p 0) (gd p 0).rows.length k)),.i ((gd p 0).rows.length:Int),gd q 0,gd q 1]):=by
 refine cJ (L:=ld N p q r) (fun i => [gd p 0,gd q 0,gd q 1,gd r 0,.i 0,.l [],.i 0,.b false,.l (eC fun k=>.b (mb (gd p 0) i k)),.i (i:Int),gd q 0,gd q 1]) (gd p 0).rows.length 0 (fun i hi=>?_) ?_ (N:=N) (by omega)
 ·obtain⟨V,Y,U⟩:=Fw hz hi;obtain⟨lo,y⟩:∃lo:Nat,(gd ((gd p 0).rows.getD i []) 0).int=lo:=⟨(gd ((gd p 0).rows.getD i []) 0).int.toNat,by omega⟩;obtain⟨n,J⟩:∃n:Nat,(gd ((gd p 0).rows.getD i []) 1).int=(lo:Int)+n:=⟨((gd ((gd p 0).rows.getD i []) 1).int - lo).toNat,by omega⟩;have M:=ajk N O p q r i lo n hi y J (by omega);show ld N p q r [_,_,_,_,_,_,_,_,_,.i (i:Int),_,_]=_;rw[IE];rw[aA,di hi,bu hi,g8,gy hi];dsimp only;rw[M];show some (0,[_,_,_,_,_,_,_,_,_,D.i (w64 ((i:Int)+1)),_,_])=_;rw[aG hi (by omega)];rfl
 ·show ld N p q r [_,_,_,_,_,_,_,_,_,.i ((gd p 0).rows.length:Int),_,_]=_;rw[IE];rw[aA,ca]
theorem akn(N:Nat)(U:1001<N)(p q r:b8)(A M:Nat)(J:(gd q 0).int=A)(y:(gd q 1).int=(A:Int)+M)(O:A+M<=1000) :
  aX (la N p q r) N [gd p 0,gd q 0,gd q 1,gd r 0,.i 0,.l [],.i 0,.b false,.l (eC fun k=>.b (mb (gd p 0) (gd p 0).rows.length k)),.i ((gd p 0).rows.length:Int),gd q 0,gd q 0,gd q 1] =
  some (6,[gd p 0,gd q 0,gd q 1,gd r 0,.i 0,.l [],.i 0,.b false,.l (eC (jZ (gd p 0) q (gd r 0))),.i ((gd p 0).rows.length:Int),KN (gd q 0) M,gd q 0,gd q 1]):=by
 have x4:=cJ (L:=la N p q r) (fun m => [gd p 0,gd q 0,gd q 1,gd r 0,.i 0,.l [],.i 0,.b false,.l (eC fun k=>bif decide (A<=k)&&decide (k<A+m) then gd r 0 else .b (mb (gd p 0) (gd p 0).rows.length k)),.i ((gd p 0).rows.length:Int),KN (gd q 0) m,gd q 0,gd q 1]) M 4 (fun m hm=>?_) ?_ (N:=N) (by omega)
 ·rw[show (eC fun k=>.b (mb (gd p 0) (gd p 0).rows.length k))=eC fun k=>bif decide (A<=k)&&decide (k<A+0) then gd r 0 else .b (mb (gd p 0) (gd p 0).rows.length k) from kX fun k=>by rw[show (decide (A<=k)&&decide (k<A+0))=false from by rw[Bool.and_eq_false_iff];simp;omega,f9]];rw[show eC (jZ (gd p 0) q (gd r 0))=eC fun k=>bif decide (A<=k)&&decide (k<A+M) then gd r 0 else .b (mb (gd p 0) (gd p 0).rows.length k) from kX fun k=>by
   unfold jZ inR leI ltI;rw[J,y]
   congr 1
   rw[y0];simp only[a9,g5];omega]
  exact x4
 ·show la N p q r [_,_,_,_,_,_,_,_,_,_,KN (gd q 0) m,_,_]=_;rw[Jv];rw[Fl,J,y,lp (show (A:Int)+(m:Int)<(A:Int)+(M:Int) by omega),g6,bd];rw[show (A:Int)+(m:Int)=((A+m:Nat):Int) from by omega,bu (by rw[qh];omega),g8,RS,aG (show A+m<1001 by omega) (by omega)];rw[show KN (gd q 0) (m+1)=.i ((A+m+1:Nat):Int) from congrArg D.i (show (gd q 0).int+((m+1:Nat):Int)=((A+m+1:Nat):Int) by omega)];rw[show (eC fun k=>bif k==A+m then gd r 0 else bif decide (A<=k)&&decide (k<A+m) then gd r 0 else .b (mb (gd p 0) (gd p 0).rows.length k))=eC fun k=>bif decide (A<=k)&&decide (k<A+(m+1)) then gd r 0 else .b (mb (gd p 0) (gd p 0).rows.length k) from kX fun k=>by
   by_cases hk:k=A+m
   ·subst hk;rw[s9,g6,show (decide (A<=A+m)&&decide (A+m<A+(m+1)))=true from by simp,g6]
   ·rw[show (k==A+m)=false from by simpa using hk,f9]
    congr 1
    rw[y0];simp only[a9,g5];omega]
 ·show la N p q r [_,_,_,_,_,_,_,_,_,_,KN (gd q 0) M,_,_]=_;rw[Jv];rw[Fl,J,y,iI (show (A:Int)+(M:Int)<=(A:Int)+(M:Int) by omega),f9]
theorem akA(N:Nat)(O:1001<N)(p q r:b8)(m:D)(C:Nat->D) :
  aX (kV N p q r) N [gd p 0,gd q 0,gd q 1,gd r 0,.i 0,.l [],.i 0,.b false,.l (eC C),.i ((gd p 0).rows.length:Int),m,.l (tS (fun k=>(C k).bool) 0).1,.i (tS (fun k=>(C k).bool) 0).2,.i ((0:Nat):Int),gd q 0,gd q 1] =
  some (8,[gd p 0,gd q 0,gd q 1,gd r 0,.i 0,.l [],.i 0,.b false,.l (eC C),.i ((gd p 0).rows.length:Int),m,.l (tS (fun k=>(C k).bool) 1001).1,.i (tS (fun k=>(C k).bool) 1001).2,.i ((1001:Nat):Int),gd q 0,gd q 1]):=by
 refine cJ (L:=kV N p q r) (fun k => [gd p 0,gd q 0,gd q 1,gd r 0,.i 0,.l [],.i 0,.b false,.l (eC C),.i ((gd p 0).rows.length:Int),m,.l (tS (fun k=>(C k).bool) k).1,.i (tS (fun k=>(C k).bool) k).2,.i (k:Int),gd q 0,gd q 1]) 1001 6 (fun k hk=>?_) ?_ (N:=N) (by omega)
 ·show kV N p q r [_,_,_,_,_,_,_,_,_,_,_,_,.i (tS (fun k=>(C k).bool) k).2,.i (k:Int),_,_]=_;rw[Ix];have hl:=agJ (fun k=>(C k).bool) k;have y:∀x,bl ((tS (fun k=>(C k).bool) k).1 ++ [x])=true:=fun x=>ci (by rw[i6];show _+1<=_;omega)
  have J:ah (k:Int) (eC C).length=true:=bK (by rw[qh];omega);have M:=aeh (C:=C) (show k<1001 by omega);rw[tS];generalize tS (fun k=>(C k).bool) k=S at *;obtain⟨o,f⟩:=S;have y:∀x,bl (o ++ [x])=true:=y;simp only[aA,bd,bi (show (k:Int)<=1000 by omega),g6,J,g8,M,aq,y,u5,aU,aG (show k<1001 by omega) (show 1001<=9223372036854775807 by omega)];cases (C k).bool
  ·rw[f9,f9,A4,g6];cases leI 0 f <;> rfl
  ·rw[g6,g6,n4,f9];cases ltI f 0 <;> rfl
 ·show kV N p q r [_,_,_,_,_,_,_,_,_,_,_,_,_,.i ((1001:Nat):Int),_,_]=_;rw[Ix];rw[aA,FX (show (1000:Int)<((1001:Nat):Int) by omega),f9]
theorem ago(N:Nat)(O:1001<N)(p q r:b8)(hz:bB (gd p 0)=true)(J:ax (sub q 0 2)=true):bf f8 kT N kN Tryz.f186 (.tup [.c (.d (.sl 41)),.c (.d (.bool))]) [⟨sd (.sl 41),p⟩,⟨ag aI,q⟩,⟨rb,r⟩]=some (bo,some (1,jo (gd p 0) q (gd r 0))):=by
 rw[lS];have U:jo (gd p 0) q (gd r 0) = [.l (bif !(ltI 16 ((Gz (gd p 0) q (gd r 0)).rows.length:Int)) then (Gz (gd p 0) q (gd r 0)).rows else[]),.b (!(ltI 16 ((Gz (gd p 0) q (gd r 0)).rows.length:Int)))]:=by unfold jo Pd;rw[hz,J,y7,y7]
 rw[U,hz,J,n4,f9,f9];have Z:(gd p 0).rows.length<=16:=by simp only[bB,a9,leI,g5] at hz;omega
 have y:=J;simp only[ax,a9,g5] at y;obtain⟨a0,a1,a2⟩:0<=(gd q 0).int/\(gd q 0).int<(gd q 1).int/\(gd q 1).int<=1000:=⟨y.1,y.2.1,y.2.2⟩;obtain⟨A,hA⟩:∃A:Nat,(gd q 0).int=A:=⟨(gd q 0).int.toNat,by omega⟩;obtain⟨M,W⟩:∃M:Nat,(gd q 1).int=(A:Int)+M:=⟨((gd q 1).int - A).toNat,by omega⟩;have V:=aks N O p q r hz Z;rw[show (eC fun k=>.b (mb (gd p 0) 0 k))=List.replicate 1001 [.b false] from (adh (.b false)).symm,show (((0:Nat):Int))=0 from rfl] at V;have x4:=akn N O p q r A M hA W (by omega);have x6:=akA N O p q r (KN (gd q 0) M) (jZ (gd p 0) q (gd r 0));have Y:=aja (wi:=gd r 0) hz J;rw[show (leI 0 1001&&eqI 1001 1001&&leI 1001 4294967296&&true&&true)=true from by kernel_rfl,aU];generalize eC (jZ (gd p 0) q (gd r 0))=R4 at *;generalize (eC fun k=>D.b (mb (gd p 0) (gd p 0).rows.length k))=R1 at *;generalize List.replicate 1001 [D.b false]=R0 at *;rw[show (tS (fun k=>(jZ (gd p 0) q (gd r 0) k).bool) 0).1 = [] from rfl,show (tS (fun k=>(jZ (gd p 0) q (gd r 0) k).bool) 0).2 = -1 from rfl,show (((0:Nat):Int))=0 from rfl] at x6;generalize tS (fun k=>(jZ (gd p 0) q (gd r 0) k).bool) 1001=S6 at *;rw[V];dsimp only[Out.pay,Out.code,Option.getD_some,Option.isSome_some];simp only[aq,ap];rw[x4];dsimp only[Out.pay,Out.code,Option.getD_some,Option.isSome_some];simp only[aq,ap];rw[x6];dsimp only[Out.pay,Out.code,Option.getD_some,Option.isSome_some];simp only[aq,ap,bd,Y];cases ltI 16 ((Gz (gd p 0) q (gd r 0)).rows.length:Int) <;> rfl
def CP:Ent:=(186,e3 (sd (.sl 41)) (ag aI) rb fun p q r=>(⟨.tup [.c (.d (.sl 41)),.c (.d (.bool))],sub (jo (gd p 0) q (gd r 0)) 0 2⟩,true))
theorem FI:ay f8 CP:=gW fun p q r h=>au (N:=1002) (ks:=kN) (al (fC ⟨sZ,fC ⟨eA,fN⟩⟩)) Tryz.func186 fun hw=>by
 rw[lS];rw[<- lS 1002 p q r];rw[show sub (jo (gd p 0) q (gd r 0)) 0 2=jo (gd p 0) q (gd r 0) from rfl];cases hz:bB (gd p 0) with
 | false =>
  have y:jo (gd p 0) q (gd r 0) = [.l [],.b false]:=by unfold jo Pd;rw[hz];rfl
  rw[y,lS,hz];rfl
 | true =>
 cases J:ax (sub q 0 2) with
 | false =>
  have y:jo (gd p 0) q (gd r 0) = [.l [],.b false]:=by unfold jo Pd;rw[hz,J];rfl
  rw[y,lS,hz,J];rfl
 | true=>exact ago 1002 (by omega) p q r hz J
abbrev AN:=find [CP]
abbrev Ar:=[0,1,3,4,5,6,7]
theorem KP(N:Nat)(p q:b8):bf f8 AN N Ar Tryz.f63 (.tup [.c (.d (.sl 41)),.c (.d (.bool))]) [⟨sd (.sl 41),p⟩,⟨ag aI,q⟩]=some (bo,
 some (1,sub (jo (gd p 0) (sub q 0 2) (.b true)) 0 2)):=by kernel_rfl
def sM:Ent:=(63,e2 (sd (.sl 41)) (ag aI) fun p q=>(⟨.tup [.c (.d (.sl 41)),.c (.d (.bool))],sub (jo (gd p 0) q (.b true)) 0 2⟩,true))
theorem wU:ay f8 sM:=bm fun p q h=>au (N:=0) (ks:=Ar) (al (fC ⟨FI,fN⟩)) Tryz.func63 fun hw=>by rw[KP];rfl
end Go.Proofs.YtpdfmcmnjikppaaGreat
end
