/-
 Texts of the proof,put together: part 8.
-/
import Derived.Test.YtpdfmcmnjikppaaGreatPR1
import Derived.Test.YtpdfmcmnjikppaaGreatPR2
import Derived.Test.YtpdfmcmnjikppaaGreatPR3
import Derived.Test.YtpdfmcmnjikppaaGreatPR4
import Derived.Test.YtpdfmcmnjikppaaGreatPR5
import Derived.Test.YtpdfmcmnjikppaaGreatPR6
import Derived.Test.YtpdfmcmnjikppaaGreatPR7
set_option linter.unusedSimpArgs false
set_option linter.unusedVariables false
set_option linter.unusedSectionVars false
noncomputable section
namespace Go.Proofs.YtpdfmcmnjikppaaGreat
abbrev L5:=@of_decide_eq_false
end Go.Proofs.YtpdfmcmnjikppaaGreat
namespace Go.Proofs.YtpdfmcmnjikppaaGreat
open Go.RowKit Go.Lib
abbrev akR(p:b8)(n u L W:D):b8:= [gd (dpS p) 0,gd (dpS p) 1,gd (dpS p) 2,gd (dpS p) 3,L,kh (gd (dpS p) 5) (bp (aF (gd (dpS p) 5)) n.int:Int) (.l [[n,.l u.rows]]),W,gd (dpS p) 7,gd (dpS p) 8,.i 0]
structure ami(p:b8)(n u L W:D):Prop where
 nh:ii (gd p 5) n.int=false
 n6:n.int ∉ an (gd p 6)
 n7:n.int ∉ an (gd p 7)
 free:iF p u=true
 room:ltI 60 (w64 (iQ (sub p 0 9)+bk (gd p 3) u))=false
 inv:alz p n u u.rows.length L W
theorem xS{p:b8}{n z u:D}(y:(gd (prI p n z u) 9).int=0):aW (sub p 0 9)=true/\inB n.int 1 60=true/\aL u=true /\
  ((ii (gd p 5) n.int=true/\prI p n z u=dpS p ++ [.i 0])\/∃L W,ami p n u L W/\prI p n z u=akR p n u L W):=by
 have J:(gd (jI ++ [D.i 1]) 9).int=0->False:=fun h=>absurd h (by decide)
 have a5:∀c:D,c.int≠0->(gd (dpS p ++ [c]) 9).int=0->False:=fun c hc h=>hc h
 unfold prI at y ⊢;rw[Mp] at y ⊢;cases hsh:aW (sub p 0 9) with
 | false=>rw[hsh] at y;exact (J y).elim
 | true =>
 rw[hsh] at y;cases hin:inB n.int 1 60 with
 | false=>rw[hin] at y;exact (J y).elim
 | true =>
 rw[hin] at y;cases hz:ltI 16 (z.rows.length:Int) with
 | true=>rw[hz] at y;exact (J y).elim
 | false =>
 rw[hz] at y;cases O:nA z with
 | false=>rw[O] at y;exact (J y).elim
 | true =>
 rw[O] at y;cases hwo:aL u with
 | false=>rw[hwo] at y;exact (J y).elim
 | true =>
 rw[hwo] at y;simp only[n4,f9] at y ⊢;rw[En] at y ⊢;refine⟨trivial,trivial,trivial,?_⟩;cases ht:ii (gd p 5) n.int with
 | true=>exact .inl ⟨rfl,rfl⟩
 | false =>
 rw[ht,f9] at y;rw[f9];obtain⟨Y,b0,a8,b1,a6,a7,a4,a2⟩:=dF hsh;have Y:aY (gd p 4)=true:=Y;have a3:∀k,k<z.rows.length->ax (sub (z.rows.getD k []) 0 2)=true:=fun k hk=>by unfold nA at O;exact i9.1 O k (m7.2 hk)
 have a1:ox p n z u=.i (bif aC (gd p 7) n.int then 2 else bif aC (gd p 6) n.int then 3 else bif !ia p n z then 7 else bif !iF p u then 4 else 0):=by rw[<- Sn (p:=p) (tx:=n) (z:=z) Y a3,<- Ss (p:=p) (z:=u) a4 a2 (fun k hk=>Lo hwo hk)];rfl
 rw[a1] at y ⊢;have M:∀c:Int,c≠0->(gd (Yl p n u (bR p n u (.i c) u.rows.length)) 9).int=0->False:=fun c hc h=>by rw[yi p n u hc] at h;exact hc h
 cases U:aC (gd p 7) n.int with
 | true=>rw[U] at y;exact (M 2 (by decide) y).elim
 | false =>
 cases V:aC (gd p 6) n.int with
 | true=>rw[U,V] at y;exact (M 3 (by decide) y).elim
 | false =>
 cases Z:ia p n z with
 | false=>rw[U,V,Z] at y;exact (M 7 (by decide) y).elim
 | true =>
 cases a0:iF p u with
 | false=>rw[U,V,Z,a0] at y;exact (M 4 (by decide) y).elim
 | true =>
 rw[U,V,Z,a0] at y;simp only[n4,f9] at y ⊢;have n6:=sY.1 V;have n7:=sY.1 U;unfold Yl at y ⊢;cases hc:(bR p n u (.i 0) u.rows.length).2.2.int==0 with
 | false =>rw[hc,f9] at y;have:(bR p n u (.i 0) u.rows.length).2.2.int=0:=y;rw[this] at hc;cases hc
 | true =>
 rw[hc,g6] at y;rw[g6];have I:=Yb hsh hin hwo n6 u.rows.length (i8 _) (u7.1 hc);cases hf:ltI 60 (w64 (iQ (sub p 0 9)+bk (gd p 3) u)) with
 | true=>rw[hf,g6] at y;exact absurd y (by show ¬(6:Int)=0;decide)
 | false =>
 rw[f9];exact .inr ⟨_,_,⟨ht,n6,n7,a0,hf,I⟩,rfl⟩
theorem tY(p:b8):an (gd (ddS p) 5)=an (gd p 5):=by rw[eG];unfold an;rw[bd,D6];rfl
theorem ade(c:D)(p:b8):gi c (gd (ddS p) 5).rows=gi c (gd p 5).rows:=by rw[eG];unfold gi;rw[bd,D6];rfl
theorem ajL{p:b8}(s:SOk (sub p 0 9)){u:D}(h:ltI 60 (w64 (iQ (sub p 0 9)+bk (gd p 3) u))=false):((gd p 3).rows.length:Int)+gi (gd p 3) (gd p 5).rows+bk (gd p 3) u<=60:=by
 have h1:=qc (gd p 3) (gd p 5) (gd p 5).rows.length;have J:=rY (gd p 3) u;have O:(gd p 5).rows.length<=60:=sR (z:=gd (sub p 0 9) 5) s.h fun r y=>(s.h1 r y).tx
 have M:(gd p 3).rows.length<=60:=((ij _).1 s.st).2.2;have e:iQ (sub p 0 9)=((gd p 3).rows.length:Int)+gi (gd p 3) (gd p 5).rows:=by show ((gd p 3).rows.length:Int)+eI (gd p 3) (gd p 5) (gd p 5).rows.length=_;rw[Bt]
 rw[Bt] at h1;rw[e,bD (by omega) (by omega)] at h;simp only[ltI,B9] at h;omega
theorem alV{p:b8}{n u L W:D}(hsh:aW (sub p 0 9)=true)(hin:inB n.int 1 60=true)(hwo:aL u=true)(N:ami p n u L W):SOk (sub (akR p n u L W) 0 9):=by
 have s:=(gf _).1 hsh;have I:=N.inv;have a1:=((dU (gd p 4)).1 s.lk).1;have U:∀r∈(gd p 4).rows,LOk (gd p 1) (gd p 6) (gd p 7) r:=s.lo;have a0:∀r∈(gd p 5).rows,HOk (gd p 4) (gd p 6) (gd p 7) r:=s.h1;have Y:∀m∈an (gd p 6),m ∉ an (gd p 7):=s.we;have V:∀j,j<u.rows.length->aT (gd p 1) (cS u j)=true:=fun j M=>by have:=N.free;unfold iF at this;have:=i9.1 this j (m7.2 M);unfold tU at this;exact (a9 _ _▸this:_/\_).1
 have a2:n.int ∉ an (gd p 5):=fun hm=>by have:=Cw.2 hm;rw[N.nh] at this;cases this
 refine⟨s.me,s.own,s.frz,s.st,I.lk,s.rk,I.w,fun r y=>?_,s.e,s.e1,fun r y=>(Qt _ _).trans (s.fr r y),fun r y=>(Qt _ _).trans (s.ce r y),fun r y=>?_,fun m hm=>?_,?_,fun r y=>?_,?_⟩
 ·have hm:(gd r 0).int∈an W:=(dS _ _).2 ⟨r,y,rfl⟩;rcases I.w1 _ hm with h | ⟨⟨x,J,h⟩,_⟩
  ·obtain⟨x,J,h⟩:=(dS _ _).1 h;rw[<- h];exact s.w1 x J
  ·rw[<- h];have:=a1 x J;simp only[rz,a9] at this;exact this.1
 ·obtain⟨h1,Z⟩:=I.l r y;rcases h1 with h1 | ⟨j,M,rfl⟩
  ·exact⟨(Qt _ _).trans (U r h1).rg,Z,(U r h1).ne⟩
  ·exact⟨(Qt _ _).trans (V j M),Z,N.n7⟩
 ·rcases I.w1 m hm with h | ⟨⟨x,J,h⟩,_⟩
  ·exact Y m h
  ·rw[<- h];exact (U x J).ne
 ·exact alZ (by rw[tY];exact s.h) (by rw[tY];exact a2)
 ·rcases VI.1 y with y | rfl
  ·rw[eG] at y;obtain⟨x,J,rfl⟩:=A8.1 y;have J:x∈(gd p 5).rows:=J;have H:=a0 x J;have O:aC (aF (gd p 5)) (gd x 0).int=true:=by rw[En,Cw,dS];exact⟨x,J,rfl⟩
   refine⟨H.tx,H.ws,fun v hv=>?_,fun hm=>?_,H.ne⟩
   ·obtain⟨r,y,h⟩:=jL.1 (H.lk v hv);exact jL.2 ⟨r,I.keep r y (.inr (by rw[OH h];exact O)),h⟩
   ·rcases I.w1 _ hm with h | ⟨_,_,h⟩
    ·exact H.nw h
    ·have h:aC (aF (gd p 5)) (gd x 0).int=false:=h;rw[O] at h;cases h
  ·refine⟨hin,hwo,fun v hv=>?_,fun hm=>?_,N.n7⟩
   ·obtain⟨j,M,rfl⟩:=t9 hv;have M:j<u.rows.length:=M;have:=I.new j M;have e:fu (u.rows[j])=cS u j:=by rw[<- aZ M];rfl
    show holds L n (fu (u.rows[j])) (.i 2)=true;rw[e];exact this
   ·rcases I.w1 _ hm with h | ⟨_,h,_⟩
    ·exact N.n6 h
    ·exact h rfl
 ·have h1:=ajL s N.room;show ((gd p 3).rows.length:Int)+gi (gd p 3) (kh (gd (dpS p) 5) _ (.l [[n,.l u.rows]])).rows<=60;rw[ajn,ade];have e:bk (gd p 3) (gd [n,D.l u.rows] 1)=bk (gd p 3) u:=rfl;rw[e];show ((gd p 3).rows.length:Int)+(gi (gd p 3) (gd p 5).rows+bk (gd p 3) u)<=60;omega
theorem ajG{p:b8}{n z u:D}(y:(gd (prI p n z u) 9).int=0):aW (sub (prI p n z u) 0 9)=true:=by
 obtain⟨hsh,hin,hwo,h⟩:=xS y;rw[gf];rcases h with⟨_,e⟩ | ⟨L,W,N,e⟩
 ·rw[e];exact aki ((gf _).1 hsh)
 ·rw[e];exact alV hsh hin hwo N
theorem ads{p:b8}{n z u:D}(y:(gd (prI p n z u) 9).int=0):n.int∈an (gd (prI p n z u) 5):=by
 obtain⟨hsh,hin,hwo,h⟩:=xS y;rcases h with⟨J,e⟩ | ⟨L,W,N,e⟩
 ·rw[e];show n.int∈an (gd (dpS p) 5);rw[tY];exact Cw.1 J
 ·rw[e];exact (dS _ _).2 ⟨[n,.l u.rows],VI.2 (.inr rfl),rfl⟩
set_option maxRecDepth 100000
set_option maxHeartbeats 4000000
abbrev sz:Value:=(.int .i64 0)
theorem YP:∀w,(zeroValue 3).run f8 w=.ok sz w:=fun w=>Tryz.zeroValue3 w
theorem Rq{w:World}{rows:List b8}{u:Value}{B:Option Nat}(hO:eh w 3 (oF 1) rows u B)(F:FuncId)(fa:Array Value)(C:b8->Bool)(hC:∀r,C r=C [.i (gd r 0).int])
  (h9:∀vs w,(callFunc F vs).run f8 w=.ok (.enter F vs) w)
  (a5:Calls f8 229 #[u,.func (.func F) #[] fa] w fun ex w'=>ex=.returned (.int .i64 (ixF (fun k=>C (rows.getD k [])) 0 rows.length))/\Below w.heap.size w w')
  (a0:∀(b6:World) (x0:Int),aM w b6 B->Calls f8 F (#[.int .i64 x0]++fa) b6 fun ex w'=>ex=.returned (.bool (C [.i x0]))/\Below b6.heap.size b6 w') :
  Calls f8 141 #[u,.func (.func F) #[] fa] w fun ex w'=>∃v' B',ex=.returned v'/\aM w w' B/\eh w' 3 (oF 1) (gE C rows) v' B'/\∀b,B'=some b->B=some b\/w.heap.size<=b:=by
 by_cases b0:ixF (fun k=>C (rows.getD k [])) 0 rows.length = -1
 ·rw[b0] at a5;have c3:gE C rows=rows:=by
   rcases qV (fun k=>C (rows.getD k [])) rows.length 0 with⟨_,h⟩ | ⟨k,_,h,_⟩
   ·exact CS fun k hk=>by have:=h k hk;rwa [m0] at this
   ·rw[b0] at h;omega
  rw[c3];have HO:Hid _:=hO;clear hO a0 c3;go_enter Tryz.func141,Tryz.ntmps141
  go_wp2_with fail
  refine a5.mono ?_;rintro e w' ⟨rfl,y⟩
  go_wp2_with fail
  go_ret
  exact⟨u,B,rfl,aM.of_below B y,io HO.out y,fun b y=>.inl y⟩
 ·obtain⟨V,d6,Z,c6,c7⟩:∃V:Nat,ixF (fun k=>C (rows.getD k [])) 0 rows.length=(V:Int)/\V<rows.length/\(∀k,k<V->C (rows.getD k [])=false)/\C (rows.getD V [])=true:=by
   rcases qV (fun k=>C (rows.getD k [])) rows.length 0 with⟨h,_⟩ | ⟨k,h1,h2,h3,h4⟩
   ·exact absurd h b0
   ·simp only[m0] at h2 h3 h4;exact⟨k,h2,h1,h4,h3⟩
  rw[d6] at a5;obtain⟨b,cap,a8,rfl,rfl,h5,h8,hh,hs,hc⟩:∃(b cap:Nat) (a8:Array Value),B=some b/\u=.slice (some ⟨b,0,none⟩) rows.length cap/\rows.length<=cap/\cap<=9223372036854775807/\w.heap[b]?=some (.cells a8 3 (0,0))/\a8.size=cap*1 /\
    ∀i j,i<rows.length->j<1->a8[i*1+j]?=some (.int .i64 (gd (rows.getD i []) j).int):=by
   rcases zX hO with⟨_,h0,_⟩ | h
   ·rw[h0] at Z;simp at Z
   ·exact h
  have HO:Hid _:=hO;have d8:Hid _:=a0;have g1:((V:Int) == -1)=false:=E9.2 (by omega);have f1:Hid (KI C rows rows V (V+1)):=KI.start Z c6 c7;have h7:b<w.heap.size:=aP hh;clear hO a0 hh hs hc c6 c7 b0 d6;go_enter Tryz.func141,Tryz.ntmps141
  go_wp2_with fail
  refine a5.mono ?_;rintro e w' ⟨rfl,y⟩;have d7:Hid _:=y;clear y
  go_wp2_with fail
  go_loopw [5,6] (fun s5 s6 wr=>∃(i j:Nat) (U:List b8),s5=.int .i64 i/\s6=.int .i64 j/\Hid (aM w wr (some b))/\Hid (eh wr 3 (oF 1) U (.slice (some ⟨b,0,none⟩) rows.length cap) (some b))/\Hid (KI C rows U i j)) (fun _ s6 _=>rows.length - (intOf s6).toNat)
  case atStart=>exact⟨V,V+1,rows,rfl,by go_num,aM.of_below _ d7.out,io HO.out d7.out,f1.out⟩
  case round =>
   obtain⟨i,j,U,rfl,rfl,HC,W,HK⟩:=hrel;have g3:=HK.out.lt;have g2:=HK.out.le;have e7:=HK.out.len;by_cases c9:j<rows.length
   ·have c4:(U.getD j [])=rows.getD j []:=HK.out.rest j (i8 _);obtain⟨a6,_⟩:=gm W.out (i:=j) (j:=0) (by omega) (by omega);obtain⟨b4,b5⟩:=gm W.out (i:=i) (j:=0) (by omega) (by omega);simp only[I7,F8] at a6 b4 b5;have e6:b<wr.heap.size:=by have:=HC.out.size;omega
    rw[c4] at a6;have Y:=fun (x:World) (hx:Below wr.heap.size wr x)=>d8.out x (gd (rows.getD j []) 0).int (HC.out.trans (aM.of_below _ hx) (fun b y=>.inl y))
    rw[<- hC] at Y;generalize c8:(gd (rows.getD j []) 0).int=x0 at *;generalize (gd (U.getD i []) 0).int=o0 at *;have e8:Hid _:=c8;have J:Hid _:=Y;clear c8 Y c4;cases hq:C (rows.getD j []) with
    | false =>
     have HQ:Hid _:=hq;rw[hq] at J;clear hq
     go_wp2_with fail
     refine (J.out _ (Below.refl _ _)).mono ?_;rintro e w2 ⟨rfl,O⟩;have f2:=O.size;have a7:w2.heap[b]?=wr.heap[b]?:=O.block b e6;have h6:w2.cell? ⟨b,i,none⟩=some (.int .i64 o0):=(bg a7 _).trans b4;have i1:w2.frozen? ⟨b,i,none⟩=false:=by rw[<- b5];unfold World.frozen?;simp only;rw[a7]
     have c2:Hid _:=O;have e9:Hid _:=a7;clear O a7 b4 b5 a6
     go_wp2_with fail
     have hA:Below wr.heap.size wr w2:=c2.out;have c5 : [Value.int .i64 x0]=BL 1 (rows.getD j []):=by rw[<- e8.out];rfl
     obtain⟨d1,d2,d3,d4,d5⟩:=bE b [Value.int .i64 x0] i w2;refine⟨⟨i+1,j+1,U.set i (rows.getD j []),by go_num,by go_num,(show Hid _ from ?_),(show Hid _ from ?_),HK.out.keep c9 HQ.out⟩,by simp[intOf];omega⟩
     ·exact (HC.out.trans (aM.of_below _ hA) (fun b y=>.inl y)).trans ⟨d1,d2,d3,D5 d4.symm,fun k hk c0=>d5 k (fun e=>c0 (by rw[e]))⟩ (fun b y=>.inl y)
     ·have:=Xy (i:=i) W.out e7 (by omega) e9.out (rows.getD j []);rw[<- c5,I7] at this;exact this
    | true =>
     have HQ:Hid _:=hq;rw[hq] at J;clear hq b4 b5
     go_wp2_with fail
     refine (J.out _ (Below.refl _ _)).mono ?_;rintro e w2 ⟨rfl,O⟩;have c2:Hid _:=O;clear O a6
     go_wp2_with fail
     have hA:Below wr.heap.size wr w2:=c2.out;exact⟨⟨i,j+1,U,rfl,by go_num,HC.out.trans (aM.of_below _ hA) (fun b y=>.inl y),io W.out hA,HK.out.skip c9 HQ.out⟩,by simp[intOf];omega⟩
   ·obtain rfl:j=rows.length:=by omega
    have M:∀k,k<rows.length*1->(wr.cell? ⟨b,k,none⟩).isSome=true/\wr.frozen? ⟨b,k,none⟩=false:=fun k hk=>by obtain⟨q1,q2⟩:=gm W.out (i:=k / 1) (j:=k % 1) (by omega) (by omega);rw[show k / 1*1+k % 1=k from by omega] at q1 q2;exact⟨by rw[q1];rfl,q2⟩
    have c1:sz.cells.size=1:=rfl;have f0:∀ty,(Builtin.clear_ #[26] ty #[.slice (some ⟨b,i,none⟩) (rows.length - i) (cap - i)]).run f8 wr=.ok (.tuple #[]) (wr.setCells b i (Builtin.zeroCells sz.cells (rows.length - i)).toList):=fun ty =>
     Pv wr _ _ ty sz Tryz.underlying26 YP (fun u hu=>by simp[Value.cells] at hu;subst hu;rfl) b i _ _ (by omega) (by decide)
      (fun k hk=>(M (i+k) (by rw[c1] at hk;omega)).1) (fun k hk=>(M (i+k) (by rw[c1] at hk;omega)).2)
    have i0:Hid _:=f0;have b1:i<=cap:=by omega
    have b2:i<=rows.length:=by omega
    have b3:¬(cap=i):=by omega
    clear M c1;go_wp2
    go_ret
    have e0:gE C rows=U.take i:=by have:=HK.out.done;rw[C9 (i8 _)] at this;exact this.symm
    rw[e0];obtain⟨d1,d2,d3,d4,d5⟩:=bE b (Builtin.zeroCells sz.cells (rows.length - i)).toList i wr;refine⟨_,some b,rfl,HC.out.trans ⟨d1,d2,d3,D5 d4.symm,fun k hk c0=>d5 k (fun e=>c0 (by rw[e]))⟩ (fun b y=>.inl y),?_,fun b y=>.inl y⟩;rcases zX W.out with⟨h0,_⟩ | ⟨b',cap',arr',y,hu,hle',h63',hh',hs',hc'⟩
    ·cases h0
    ·injection y with y
     subst y;injection hu with _ _ hu2
     subst hu2;obtain⟨f3,a1,a2,a3,a4⟩:=bP b 3 (0,0) (Builtin.zeroCells sz.cells (rows.length - i)).toList i wr arr' hh' (by
      have:(Builtin.zeroCells sz.cells (rows.length - i)).toList.length=(rows.length - i)*1:=by simp[size_zeroCells,show sz.cells.size=1 from rfl]
      rw[this,hs'];omega)
     have hl:(U.take i).length=i:=by rw[w5];omega
     have:=Va (rows:=U.take i) a1 (by rw[a2,hs']) (by omega) h63' (fun k m hk hm=>by rw[hl] at hk;rw[g4,u9,m6 hk,<- g4];rw[a3 _ (.inl (by omega))];exact hc' k m (by omega) hm)
     rwa [hl] at this
set_option maxRecDepth 4096
set_option maxHeartbeats 1000000
abbrev tE:=find []
theorem Ag:av f8 tE:=al (fN)
abbrev ui:=[0,1,3]
theorem BD(N:Nat)(p q:b8):bf f8 tE N ui Tryz.f142 rb [⟨ri,p⟩,⟨.one (.c (.cptr [si] 0)),q⟩]=some (bo,
 ob ((gd p 0).int==(gd ((gd q 0).rows.getD 0 []) 0).int)):=by kernel_rfl
def jA(p q:b8):Bool:=
 (gd p 0).int==(gd ((gd q 0).rows.getD 0 []) 0).int
def tJ:Ent:=(142,e2 ri (.one (.c (.cptr [si] 0))) fun p q=>(⟨rb,[.b (jA [gd p 0] [gd q 0])]⟩,true))
theorem qY:ay f8 tJ:=bm fun p q h=>au (N:=0) (ks:=ui) Ag Tryz.func142 fun hw=>by
 rw[BD]
 try simp only[er,ez,eo]
 rfl
abbrev aao:=find [tJ]
abbrev abk:=[0,1,4,5,7,8,9,16]
def FB(N:Nat)(p q:b8):b8->Out:=bb f8 aao N abk Tryz.f229 ri [⟨sd (.sl 3),p⟩,⟨.one (.c (.fn 142 [.cptr [si] 0])),q⟩] 0
theorem abX(N:Nat)(p q:b8)(y J O M x4:D):(FB N p q) [y,J,O,M,x4] =
 bif ltI x4.int M.int then nd (ah x4.int y.rows.length) (bif jA [gd (y.rows.getD x4.int.toNat []) 0] [gd (J.rows.getD 0 []) 0] then some (1,[x4])
 else nx [y,J,O,M,.i (w64 (x4.int+1))])
 else ex 0 [y,J,O,M,x4]:=by kernel_rfl
theorem agw(N:Nat)(p q:b8):bf f8 aao N abk Tryz.f229 ri [⟨sd (.sl 3),p⟩,⟨.one (.c (.fn 142 [.cptr [si] 0])),q⟩]=some (bo,
 (let y:=aX (FB N p q) N [gd p 0,gd q 0,.i 0,.i ((gd p 0).rows.length:Int),.i 0]
  nd y.isSome (bif y.code==1 then some (1,y.pay)
  else nd (y.code==2) (oi (-1))))):=by kernel_rfl
def zk(c:D)(r:b8):Bool:=jA r [gd (c.rows.getD 0 []) 0]
def alc:Ent:=(229,e2 (sd (.sl 3)) (.one (.c (.fn 142 [.cptr [si] 0]))) fun p q=>(⟨ri,[.i (ixF (fun k=>zk (gd q 0) (sub ((gd p 0).rows.getD k []) 0 1)) 0 (gd p 0).rows.length)]⟩,true))
theorem afV:ay f8 alc:=bm fun p q h=>au (N:=(gd p 0).rows.length+1) (ks:=abk) (al (fC ⟨qY,fN⟩)) Tryz.func229 fun hw=>by
 rw[agw];have hl:=fi (hw ⟨sd (.sl 3),p⟩ (by simp));have e:=iq (L:=FB ((gd p 0).rows.length+1) p q) (fun k => [gd p 0,gd q 0,.i 0,.i ((gd p 0).rows.length:Int),.i (k:Int)]) (gd p 0).rows.length (fun k=>zk (gd q 0) (sub ((gd p 0).rows.getD k []) 0 1)) [gd p 0,gd q 0,.i 0,.i ((gd p 0).rows.length:Int),.i ((gd p 0).rows.length:Int)] (fun k hk=>?_) ?_ (gd p 0).rows.length 0 ((gd p 0).rows.length+1) (by omega) (by omega)
 ·simp only[j9] at e;rw[e];have y:=gT (fun k=>zk (gd q 0) (sub ((gd p 0).rows.getD k []) 0 1)) (gd p 0).rows.length 0;cases J:decide (ixF (fun k=>zk (gd q 0) (sub ((gd p 0).rows.getD k []) 0 1)) 0 (gd p 0).rows.length>=0)
  ·rw[y J];rfl
  ·rfl
 ·show FB _ p q [_,_,_,_,.i (k:Int)]=_;rw[abX];simp only[aA,di hk,bu hk,aG hk hl,g8];rw[show jA [gd ((gd p 0).rows.getD k []) 0] [gd ((gd q 0).rows.getD 0 []) 0]=zk (gd q 0) (sub ((gd p 0).rows.getD k []) 0 1) from rfl];cases zk (gd q 0) (sub ((gd p 0).rows.getD k []) 0 1) <;> rfl
 ·show FB _ p q [_,_,_,.i ((gd p 0).rows.length:Int),.i ((gd p 0).rows.length:Int)]=_;rw[abX];simp only[aA,ca]
abbrev DR:=find []
theorem KW:av f8 DR:=al (fN)
abbrev DT:=[0,1,2,3]
theorem Mw(N:Nat)(p q:b8):bf f8 DR N DT Tryz.f166 rb [⟨ag dG,p⟩,⟨.one (.c (.cptr [si] 0)),q⟩]=some (bo,
 ob ((gd p 0).int != (gd ((gd q 0).rows.getD 0 []) 0).int)):=by kernel_rfl
def pW(p q:b8):Bool:=
 (gd p 0).int != (gd ((gd q 0).rows.getD 0 []) 0).int
def Fp:Ent:=(166,e2 (ag dG) (.one (.c (.cptr [si] 0))) fun p q=>(⟨rb,[.b (pW p [gd q 0])]⟩,true))
theorem xG:ay f8 Fp:=bm fun p q h=>au (N:=0) (ks:=DT) KW Tryz.func166 fun hw=>by
 rw[Mw]
 try simp only[er,ez,eo]
 rfl
abbrev abh:=find [Fp]
abbrev aaz:=[0,1,4,5,7,8,9,16]
def FU(N:Nat)(p q:b8):b8->Out:=bb f8 abh N aaz Tryz.f234 ri [⟨sd (.sl 93),p⟩,⟨.one (.c (.fn 166 [.cptr [si] 0])),q⟩] 0
theorem adc(N:Nat)(p q:b8)(y J O M x4:D):(FU N p q) [y,J,O,M,x4] =
 bif ltI x4.int M.int then nd (ah x4.int y.rows.length) (bif pW (sub (y.rows.getD x4.int.toNat []) 0 4) [gd (J.rows.getD 0 []) 0] then some (1,[x4])
 else nx [y,J,O,M,.i (w64 (x4.int+1))])
 else ex 0 [y,J,O,M,x4]:=by kernel_rfl
theorem aii(N:Nat)(p q:b8):bf f8 abh N aaz Tryz.f234 ri [⟨sd (.sl 93),p⟩,⟨.one (.c (.fn 166 [.cptr [si] 0])),q⟩]=some (bo,
 (let y:=aX (FU N p q) N [gd p 0,gd q 0,.i 0,.i ((gd p 0).rows.length:Int),.i 0]
  nd y.isSome (bif y.code==1 then some (1,y.pay)
  else nd (y.code==2) (oi (-1))))):=by kernel_rfl
def BC(c:D)(r:b8):Bool:=pW r [gd (c.rows.getD 0 []) 0]
def alN:Ent:=(234,e2 (sd (.sl 93)) (.one (.c (.fn 166 [.cptr [si] 0]))) fun p q=>(⟨ri,[.i (ixF (fun k=>BC (gd q 0) (sub ((gd p 0).rows.getD k []) 0 4)) 0 (gd p 0).rows.length)]⟩,true))
theorem aiC:ay f8 alN:=bm fun p q h=>au (N:=(gd p 0).rows.length+1) (ks:=aaz) (al (fC ⟨xG,fN⟩)) Tryz.func234 fun hw=>by
 rw[aii];have hl:=fi (hw ⟨sd (.sl 93),p⟩ (by simp));have e:=iq (L:=FU ((gd p 0).rows.length+1) p q) (fun k => [gd p 0,gd q 0,.i 0,.i ((gd p 0).rows.length:Int),.i (k:Int)]) (gd p 0).rows.length (fun k=>BC (gd q 0) (sub ((gd p 0).rows.getD k []) 0 4)) [gd p 0,gd q 0,.i 0,.i ((gd p 0).rows.length:Int),.i ((gd p 0).rows.length:Int)] (fun k hk=>?_) ?_ (gd p 0).rows.length 0 ((gd p 0).rows.length+1) (by omega) (by omega)
 ·simp only[j9] at e;rw[e];have y:=gT (fun k=>BC (gd q 0) (sub ((gd p 0).rows.getD k []) 0 4)) (gd p 0).rows.length 0;cases J:decide (ixF (fun k=>BC (gd q 0) (sub ((gd p 0).rows.getD k []) 0 4)) 0 (gd p 0).rows.length>=0)
  ·rw[y J];rfl
  ·rfl
 ·show FU _ p q [_,_,_,_,.i (k:Int)]=_;rw[adc];simp only[aA,di hk,bu hk,aG hk hl,g8];unfold BC;cases pW (sub ((gd p 0).rows.getD k []) 0 4) [gd ((gd q 0).rows.getD 0 []) 0] <;> rfl
 ·show FU _ p q [_,_,_,.i ((gd p 0).rows.length:Int),.i ((gd p 0).rows.length:Int)]=_;rw[adc];simp only[aA,ca]
set_option maxRecDepth 100000
set_option maxHeartbeats 4000000
def qG(x c:D):D:=.l (gE (fun r=>zk c (sub r 0 1)) x.rows)
def Ry:Ent:=(141,e2 (sd (.sl 3)) (.one (.c (.fn 142 [.cptr [si] 0]))) fun p q=>(⟨.tup [.agg [.any]],[qG (gd p 0) (gd q 0)]⟩,true))
theorem Ys:ay f8 Ry:=bm fun p q h=>by
 refine aJ.ofK rfl ⟨cB Tryz.func141 (by kernel_rfl) (by kernel_rfl),fun e x rest row O V b1 w prot u B vs hO hB a7 a2 b3=>?_⟩;injection O with O hre
 injection O with O hp
 injection O with O
 injection O with O
 injection O with O
 injection O with O
 subst O hre;have hx:gd p 0=x:=by rw[hp];rfl
 rw[show br f8 3=some (oF 1) from by kernel_rfl] at V;injection V with V
 subst V;obtain⟨f0,a8,U,b0,a3,a6⟩:∃f0,vs = #[f0]/\∃U:Array Value,f0=.func (.func 142) #[] U/\U.size=1/\∀y,aM w y B->(∃z,U[0]?=some z/\iV f8 y (g0 y.heap.size prot) y.heap.size [si] 0 (gd ((gd q 0).rows.getD 0 []) 0) z):=by
  have hg:=fun y (Z:aM w y B)=>(a2 y Z).2 0 _ rfl
  obtain⟨f0,h1,U,W,h3,h4⟩:=hg w (aM.refl w B);refine⟨f0,pX (a2 w (aM.refl w B)) [f0] rfl fun j t u' J hu=>?_,U,W,h3,fun y Z=>?_⟩
  ·match j,J with
   | 0,_=>rw[h1] at hu;injection hu with hu;rw[<- hu];rfl
  ·obtain⟨f1,k1,fb,k2,k3,k4⟩:=hg y Z;rw[h1] at k1;injection k1 with k1;subst k1;rw[W] at k2;injection k2 with _ _ k2;subst k2;exact k4 0 _ rfl
 subst a8 b0
 let C:b8->Bool:=fun r=>zk (gd q 0) (sub r 0 1)
 have a1:∀y a0,aM w y B->∃z,U[0]?=some z/\iV f8 y (g0 y.heap.size a0) y.heap.size [si] 0 (gd ((gd q 0).rows.getD 0 []) 0) z:=by
  intro y a0 Z;obtain⟨z,h1,b,o,W,h3,h4⟩:=a6 y Z;refine⟨z,h1,b,o,W,h3,fun j s M=>?_⟩;obtain⟨u',k1,k2⟩:=h4 j s M;have a5:s=si:=by
   match j,M with
   | 0,M=>injection M with M;exact M.symm
  subst a5;exact⟨u',k1,by cases k2;exact .int _ _⟩
 have b2:U.toList.length=1:=by simpa using a3
 have a4:=Rq hO 142 U C (fun r=>rfl) (cB Tryz.func142) ?_ ?_
 ·show Calls _ _ #[u,.func (.func 142) #[] U] w fun ex w'=>∃v' B',ex=.returned v'/\aM w w' B/\eh w' _ _ (gE C (gd p 0).rows) v' B'/\_
  rw[hx];exact a4
 ·-- the search
  have M:=afV [⟨sd (.sl 3),[x]⟩,⟨.one (.c (.fn 142 [.cptr [si] 0])),q⟩] ⟨ri,[.i (ixF (fun k=>C (x.rows.getD k [])) 0 x.rows.length)]⟩ rfl;have M:=(M.n rfl).2 w (fun b=>if B=some b then x.rows.length*1 else prot b) #[u,.func (.func 142) #[] U] ⟨rfl,fun j t J=>?_⟩ (fun b hb=>?_)
  ·refine M.mono ?_;rintro ex w' ⟨v',g',rfl,hR⟩;have hv:VD f8 w' g'.prot (.int .i64) (.i (ixF (fun k=>C (x.rows.getD k [])) 0 x.rows.length)) v':=hR.val;cases hv;exact⟨rfl,hR.below⟩
  ·match j,J with
   | 0,J =>
    injection J with J;subst J
    refine⟨u,rfl,?_⟩;have:=Gk (P:=f8) (z:=x) (show br f8 3=some (oF 1) from by kernel_rfl) hO;exact this.mono fun b o z h1 W=>⟨W,by
     change o<(if B=some b then x.rows.length*1 else 0) at h1;show o<(if B=some b then x.rows.length*1 else prot b)
     split at h1
     ·rw[m6 ‹_›];exact h1
     ·omega⟩
   | 1,J =>
    injection J with J;subst J
    refine⟨_,rfl,U,rfl,a3,fun j c hc=>?_⟩
    match j,hc with
    | 0,hc =>
     injection hc with hc;subst hc
     exact a1 w _ (aM.refl w B)
  ·show (if B=some b then _ else prot b)=0;rw[j7 (fun e=>by have:=uC hO b e;omega)];exact a7 b hb
 ·intro y Y Z;have M:=qY [⟨ri,[.i Y]⟩,⟨.one (.c (.cptr [si] 0)),[gd ((gd q 0).rows.getD 0 []) 0]⟩] ⟨rb,[.b (C [.i Y])]⟩ rfl;have M:=(M.n rfl).2 y (fun _=>0) (#[.int .i64 Y]++U) ⟨by rw[D2,a3];rfl,fun j t J=>?_⟩ (fun b hb=>rfl)
  ·refine M.mono ?_;rintro ex w' ⟨v',g',rfl,hR⟩;have hv:VD f8 w' g'.prot .bool (.b (C [.i Y])) v':=hR.val;cases hv;exact⟨rfl,hR.below⟩
  ·match j,J with
   | 0,J =>
    injection J with J;subst J
    exact⟨.int .i64 Y,v5 (xs:= #[Value.int .i64 Y]) (i:=0) (by show 0<1;omega),.int .i64 (.i Y)⟩
   | 1,J =>
    injection J with J;subst J
    obtain⟨z,h1,W⟩:=a1 y (fun _=>0) Z;refine⟨z,?_,W⟩;exact (D7 (xs:= #[Value.int .i64 Y]) (i:=1) (by show 1<=1;omega)).trans h1
def UG(x c:D):D:=.l (gE (fun r=>BC c (sub r 0 4)) x.rows)
def RX:Ent:=(164,e2 (sd (.sl 93)) (.one (.c (.fn 166 [.cptr [si] 0]))) fun p q=>(⟨.tup [.agg [.any]],[UG (gd p 0) (gd q 0)]⟩,true))
theorem Wv:ay f8 RX:=bm fun p q h=>by
 refine aJ.ofK rfl ⟨cB Tryz.func164 (by kernel_rfl) (by kernel_rfl),fun e x rest row U Z b1 w prot u B vs hO hB a7 a2 b3=>?_⟩;injection U with U hre
 injection U with U hp
 injection U with U
 injection U with U
 injection U with U
 injection U with U
 subst U hre;have hx:gd p 0=x:=by rw[hp];rfl
 rw[show br f8 93=some (oF 4) from by kernel_rfl] at Z;injection Z with Z
 subst Z;obtain⟨f0,a8,V,b0,a3,a6⟩:∃f0,vs = #[f0]/\∃V:Array Value,f0=.func (.func 166) #[] V/\V.size=1/\∀y,aM w y B->(∃z,V[0]?=some z/\iV f8 y (g0 y.heap.size prot) y.heap.size [si] 0 (gd ((gd q 0).rows.getD 0 []) 0) z):=by
  have hg:=fun y (hC:aM w y B)=>(a2 y hC).2 0 _ rfl
  obtain⟨f0,h1,V,h2,h3,h4⟩:=hg w (aM.refl w B);refine⟨f0,pX (a2 w (aM.refl w B)) [f0] rfl fun j t u' M hu=>?_,V,h2,h3,fun y hC=>?_⟩
  ·match j,M with
   | 0,_=>rw[h1] at hu;injection hu with hu;rw[<- hu];rfl
  ·obtain⟨f1,k1,fb,k2,k3,k4⟩:=hg y hC;rw[h1] at k1;injection k1 with k1;subst k1;rw[h2] at k2;injection k2 with _ _ k2;subst k2;exact k4 0 _ rfl
 subst a8 b0
 let C:b8->Bool:=fun r=>BC (gd q 0) (sub r 0 4)
 have a1:∀y a0,aM w y B->∃z,V[0]?=some z/\iV f8 y (g0 y.heap.size a0) y.heap.size [si] 0 (gd ((gd q 0).rows.getD 0 []) 0) z:=by
  intro y a0 hC;obtain⟨z,h1,b,o,h2,h3,h4⟩:=a6 y hC;refine⟨z,h1,b,o,h2,h3,fun j s O=>?_⟩;obtain⟨u',k1,k2⟩:=h4 j s O;have a5:s=si:=by
   match j,O with
   | 0,O=>injection O with O;exact O.symm
  subst a5;exact⟨u',k1,by cases k2;exact .int _ _⟩
 have b2:V.toList.length=1:=by simpa using a3
 have a4:=qr hO 166 V C (fun r=>rfl) (cB Tryz.func166) ?_ ?_
 ·show Calls _ _ #[u,.func (.func 166) #[] V] w fun ex w'=>∃v' B',ex=.returned v'/\aM w w' B/\eh w' _ _ (gE C (gd p 0).rows) v' B'/\_
  rw[hx];exact a4
 ·-- the search
  have O:=aiC [⟨sd (.sl 93),[x]⟩,⟨.one (.c (.fn 166 [.cptr [si] 0])),q⟩] ⟨ri,[.i (ixF (fun k=>C (x.rows.getD k [])) 0 x.rows.length)]⟩ rfl;have O:=(O.n rfl).2 w (fun b=>if B=some b then x.rows.length*4 else prot b) #[u,.func (.func 166) #[] V] ⟨rfl,fun j t M=>?_⟩ (fun b hb=>?_)
  ·refine O.mono ?_;rintro ex w' ⟨v',g',rfl,hR⟩;have hv:VD f8 w' g'.prot (.int .i64) (.i (ixF (fun k=>C (x.rows.getD k [])) 0 x.rows.length)) v':=hR.val;cases hv;exact⟨rfl,hR.below⟩
  ·match j,M with
   | 0,M =>
    injection M with M;subst M
    refine⟨u,rfl,?_⟩;have:=Gk (P:=f8) (z:=x) (show br f8 93=some (oF 4) from by kernel_rfl) hO;exact this.mono fun b o z h1 h2=>⟨h2,by
     change o<(if B=some b then x.rows.length*4 else 0) at h1;show o<(if B=some b then x.rows.length*4 else prot b)
     split at h1
     ·rw[m6 ‹_›];exact h1
     ·omega⟩
   | 1,M =>
    injection M with M;subst M
    refine⟨_,rfl,V,rfl,a3,fun j c hc=>?_⟩
    match j,hc with
    | 0,hc =>
     injection hc with hc;subst hc
     exact a1 w _ (aM.refl w B)
  ·show (if B=some b then _ else prot b)=0;rw[j7 (fun e=>by have:=uC hO b e;omega)];exact a7 b hb
 ·intro y x0 x1 Y W hC;have O:=xG [⟨ag dG,[.i x0,.i x1,.i Y,.i W]⟩,⟨.one (.c (.cptr [si] 0)),[gd ((gd q 0).rows.getD 0 []) 0]⟩] ⟨rb,[.b (C [.i x0,.i x1,.i Y,.i W])]⟩ rfl;have O:=(O.n rfl).2 y (fun _=>0) (#[.agg #[.int .i64 x0,.int .i64 x1,.int .i64 Y,.int .i64 W]]++V) ⟨by rw[D2,a3];rfl,fun j t M=>?_⟩ (fun b hb=>rfl)
  ·refine O.mono ?_;rintro ex w' ⟨v',g',rfl,hR⟩;have hv:VD f8 w' g'.prot .bool (.b (C [.i x0,.i x1,.i Y,.i W])) v':=hR.val;cases hv;exact⟨rfl,hR.below⟩
  ·match j,M with
   | 0,M =>
    injection M with M;subst M
    refine⟨.agg #[.int .i64 x0,.int .i64 x1,.int .i64 Y,.int .i64 W],v5 (xs:= #[Value.agg #[.int .i64 x0,.int .i64 x1,.int .i64 Y,.int .i64 W]]) (i:=0) (by show 0<1;omega),#[.int .i64 x0,.int .i64 x1,.int .i64 Y,.int .i64 W],rfl,rfl,fun j cc J=>?_⟩
    match j,J with
    | 0,J=>injection J with J;subst J;exact⟨_,rfl,.int .i64 (.i x0)⟩
    | 1,J=>injection J with J;subst J;exact⟨_,rfl,.int .i64 (.i x1)⟩
    | 2,J=>injection J with J;subst J;exact⟨_,rfl,.int .i64 (.i Y)⟩
    | 3,J=>injection J with J;subst J;exact⟨_,rfl,.int .i64 (.i W)⟩
   | 1,M =>
    injection M with M;subst M
    obtain⟨z,h1,h2⟩:=a1 y (fun _=>0) hC;refine⟨z,?_,h2⟩;exact (D7 (xs:= #[Value.agg #[.int .i64 x0,.int .i64 x1,.int .i64 Y,.int .i64 W]]) (i:=1) (by show 1<=1;omega)).trans h1
set_option maxRecDepth 4096
set_option maxHeartbeats 1000000
abbrev Ox:=find [ng,nP,RX]
abbrev OK:=[0,1,3,4,7]
theorem VM(N:Nat)(p q:b8):bf f8 Ox N OK Tryz.f45 (.one (.c (.own (0,0) true 93))) [⟨sd (.sl 93),p⟩,⟨ri,q⟩]=some (bo,
 bif !(aY (gd p 0)) then some (1,[.l []])
 else nd (leI ((gd p 0).rows.length:Int) 2000000) (some (1,[UG (.l (gd p 0).rows) (.l [[.l [[gd q 0]]]])]))):=by kernel_rfl
def nT(z n:D):D:=bif aY z then UG (.l z.rows) (.l [[.l [[n]]]]) else .l []
def Ng:Ent:=(45,e2 (sd (.sl 93)) ri fun p q=>(⟨.one (.c (.own (0,0) true 93)),[nT (gd p 0) (gd q 0)]⟩,true))
theorem Vg:ay f8 Ng:=bm fun p q h=>au (N:=0) (ks:=OK) (al (fC ⟨lP,fC ⟨nO,fC ⟨Wv,fN⟩⟩⟩)) Tryz.func45 fun hw=>by
 rw[VM];refine congrArg (fun x=>some (bo,x)) ?_;show _=some (1,[nT (gd p 0) (gd q 0)]);unfold nT;cases h1:aY (gd p 0) with
 | false=>rfl
 | true =>rw[show leI ((gd p 0).rows.length:Int) 2000000=true from bi (by have y:((gd p 0).rows.length:Int)<=40:=i7 ((a9 _ _).mp h1).2;omega)];rfl
abbrev JE:=find [qW,Co]
abbrev JA:=[0,1,4,7]
theorem Qi(N:Nat)(p q:b8):bf f8 JE N JA Tryz.f49 ri [⟨sd (.sl 108),p⟩,⟨ri,q⟩]=some (bo,
 bif !(aN (gd p 0)) then oi (-1)
 else nd (aN (gd p 0)&&inB (gd q 0).int 0 999) (some (1,[ux (gd p 0) (gd q 0).int]))):=by kernel_rfl
def OA(z n:D):D:=bif aN z then ux z n.int else .i (-1)
def JF:Ent:=(49,e2 (sd (.sl 108)) ri fun p q=>(⟨ri,[OA (gd p 0) (gd q 0)]⟩,inB (gd q 0).int 0 999))
theorem Re:ay f8 JF:=bm fun p q h=>au (N:=0) (ks:=JA) (al (fC ⟨pM,fC ⟨Fy,fN⟩⟩)) Tryz.func49 fun hw=>by
 rw[Qi];have h:inB (gd q 0).int 0 999=true:=h;refine congrArg (fun x=>some (bo,x)) ?_;show _=some (1,[OA (gd p 0) (gd q 0)]);unfold OA;rw[h];cases h1:aN (gd p 0) with
 | false=>rfl
 | true=>rfl
abbrev As:=find [qW,oC,DZ,Iw]
abbrev Am:=[0,1,4,5,6,14,21]
theorem KM(N:Nat)(p q:b8):bf f8 As N Am Tryz.f139 (.tup [.c (.own (0,0) true 108),.c (.d .bool)]) [⟨sd (.sl 108),p⟩,⟨sd (.sl 70),q⟩]=some (bo,
 bif !(aN (gd p 0)) then some (1,[.l [],.b false])
 else bif !(aL (gd q 0)) then some (1,[.l [],.b false])
 else nd (leI ((gd p 0).rows.length:Int) 1000000) (nd (cI (.l (gd p 0).rows)&&aL (gd q 0)) (bif ltI 60 ((wrD (.l (gd p 0).rows) (gd q 0) (gd q 0).rows.length).rows.length:Int) then some (1,[.l [],.b false])
 else some (1,[wrD (.l (gd p 0).rows) (gd q 0) (gd q 0).rows.length,.b true])))):=by kernel_rfl
def vV(z w:D):Bool:=aN z&&(aL w && !(ltI 60 ((wrD (.l z.rows) w w.rows.length).rows.length:Int)))
def oQ(z w:D):D:=bif vV z w then wrD (.l z.rows) w w.rows.length else .l []
def AO:Ent:=(139,e2 (sd (.sl 108)) (sd (.sl 70)) fun p q=>(⟨.tup [.c (.own (0,0) true 108),.c (.d .bool)],[oQ (gd p 0) (gd q 0),.b (vV (gd p 0) (gd q 0))]⟩,true))
theorem KH:ay f8 AO:=bm fun p q h=>au (N:=0) (ks:=Am) (al (fC ⟨pM,fC ⟨nu,fC ⟨Cd,fC ⟨Rl,fN⟩⟩⟩⟩)) Tryz.func139 fun hw=>by
 rw[KM];refine congrArg (fun x=>some (bo,x)) ?_;show _=some (1,[oQ (gd p 0) (gd q 0),.b (vV (gd p 0) (gd q 0))]);unfold oQ vV;cases h1:aN (gd p 0) with
 | false=>rfl
 | true =>
  cases O:aL (gd q 0) with
  | false=>rfl
  | true =>have J:=ep h1;have y:cI (.l (gd p 0).rows)=true:=xo.2 (by have:=(ij (gd p 0)).1 h1;exact⟨this.2.1,fun a M=>(this.1 a M).1⟩);rw[y,show leI ((gd p 0).rows.length:Int) 1000000=true from bi (by have:=J.len;omega)];cases ltI 60 ((wrD (.l (gd p 0).rows) (gd q 0) (gd q 0).rows.length).rows.length:Int) <;> rfl
def wq:Ent:=Ow [18]
theorem DG:ay f8 wq:=wY _
abbrev yT:=find [wh,Ab,vG,abb,qm,alC,AO,ace,AF,Ry,sm,yC,wq]
abbrev xg:=[0,1,2,3,4,6,7,8,9,17,24,32,33]
def rn(N:Nat)(p q r:b8):List b8:= [[.b (vV (gd (dpS p) 3) (gd ((gd (dpS p) 5).rows.getD (ixF (fun k=>(gd q 0).int==(gd ((aF (gd (dpS p) 5)).rows.getD k []) 0).int) 0 (aF (gd (dpS p) 5)).rows.length).toNat []) 1))],[.i 0],[oQ (gd (dpS p) 3) (gd ((gd (dpS p) 5).rows.getD (ixF (fun k=>(gd q 0).int==(gd ((aF (gd (dpS p) 5)).rows.getD k []) 0).int) 0 (aF (gd (dpS p) 5)).rows.length).toNat []) 1)],[oQ (gd (dpS p) 3) (gd ((gd (dpS p) 5).rows.getD (ixF (fun k=>(gd q 0).int==(gd ((aF (gd (dpS p) 5)).rows.getD k []) 0).int) 0 (aF (gd (dpS p) 5)).rows.length).toNat []) 1),.b (vV (gd (dpS p) 3) (gd ((gd (dpS p) 5).rows.getD (ixF (fun k=>(gd q 0).int==(gd ((aF (gd (dpS p) 5)).rows.getD k []) 0).int) 0 (aF (gd (dpS p) 5)).rows.length).toNat []) 1))],[oQ (gd (dpS p) 3) (gd ((gd (dpS p) 5).rows.getD (ixF (fun k=>(gd q 0).int==(gd ((aF (gd (dpS p) 5)).rows.getD k []) 0).int) 0 (aF (gd (dpS p) 5)).rows.length).toNat []) 1),.b (vV (gd (dpS p) 3) (gd ((gd (dpS p) 5).rows.getD (ixF (fun k=>(gd q 0).int==(gd ((aF (gd (dpS p) 5)).rows.getD k []) 0).int) 0 (aF (gd (dpS p) 5)).rows.length).toNat []) 1))],[.l [[.l (gd (dpS p) 5).rows,.i (ixF (fun k=>(gd q 0).int==(gd ((aF (gd (dpS p) 5)).rows.getD k []) 0).int) 0 (aF (gd (dpS p) 5)).rows.length)]]],[.l [[.l (gd (dpS p) 5).rows,.i (ixF (fun k=>(gd q 0).int==(gd ((aF (gd (dpS p) 5)).rows.getD k []) 0).int) 0 (aF (gd (dpS p) 5)).rows.length)]]],[.l [[.l (gd (dpS p) 5).rows,.i (ixF (fun k=>(gd q 0).int==(gd ((aF (gd (dpS p) 5)).rows.getD k []) 0).int) 0 (aF (gd (dpS p) 5)).rows.length)]]],[.i (ixF (fun k=>(gd q 0).int==(gd ((aF (gd (dpS p) 5)).rows.getD k []) 0).int) 0 (aF (gd (dpS p) 5)).rows.length)],[gd (dpS p) 5],[.i 0],[gd (dpS p) 3],[.i 0],p,q,r,[.i 0],[.i 0],[.i 0],[.i 0],[.b (!(inB (gd q 0).int 1 60))],[.i 0],[.b (aC (gd p 7) (gd q 0).int)],[.i (ixF (fun k=>(gd q 0).int==(gd ((aF (gd (dpS p) 5)).rows.getD k []) 0).int) 0 (aF (gd (dpS p) 5)).rows.length)],[.b (leI 0 (ixF (fun k=>(gd q 0).int==(gd ((aF (gd (dpS p) 5)).rows.getD k []) 0).int) 0 (aF (gd (dpS p) 5)).rows.length))],r,[gd p 0,gd p 1,gd p 2,gd p 3,gd p 4,gd p 5,gd p 6,gd p 7,gd p 8],[gd q 0],[.i 0,.l [],.l [],.l [],.l [],.l [],.l [],.l [],.i 0],[gd (dpS p) 0,gd (dpS p) 1,gd (dpS p) 2,oQ (gd (dpS p) 3) (gd ((gd (dpS p) 5).rows.getD (ixF (fun k=>(gd q 0).int==(gd ((aF (gd (dpS p) 5)).rows.getD k []) 0).int) 0 (aF (gd (dpS p) 5)).rows.length).toNat []) 1),gd (dpS p) 4,gd (dpS p) 5,gd (dpS p) 6,gd (dpS p) 7,gd (dpS p) 8]]
theorem GM(N:Nat)(p q r:b8):bf f8 yT N xg Tryz.f39 (.tup [.agg sa,.c (.d si)]) [⟨ag aR,p⟩,⟨ri,q⟩,⟨rb,r⟩]=some (bo,
 nd (bG (sub p 0 9)) (bif !(aW (sub p 0 9)) then some (1,[.i 0,.l [],.l [],.l [],.l [],.l [],.l [],.l [],.i 0,.i 1])
 else bif !(inB (gd q 0).int 1 60) then some (1,[.i 0,.l [],.l [],.l [],.l [],.l [],.l [],.l [],.i 0,.i 1])
 else nd (dY (sub p 0 9)) (bif aC (gd p 7) (gd q 0).int then some (1,sub (dpS p) 0 9 ++ [.i 2])
 else nd (leI ((gd (dpS p) 5).rows.length:Int) 1000000000) (bif leI 0 (ixF (fun k=>(gd q 0).int==(gd ((aF (gd (dpS p) 5)).rows.getD k []) 0).int) 0 (aF (gd (dpS p) 5)).rows.length) then bif (gd r 0).bool then nd ((ah (ixF (fun k=>(gd q 0).int==(gd ((aF (gd (dpS p) 5)).rows.getD k []) 0).int) 0 (aF (gd (dpS p) 5)).rows.length) (gd (dpS p) 5).rows.length)&&true) (nd (((ah (ixF (fun k=>(gd q 0).int==(gd ((aF (gd (dpS p) 5)).rows.getD k []) 0).int) 0 (aF (gd (dpS p) 5)).rows.length) (gd (dpS p) 5).rows.length)&&true)&&(em (rn N p q r) (rn N p q r))) (nd (leI 0 (ixF (fun k=>(gd q 0).int==(gd ((aF (gd (dpS p) 5)).rows.getD k []) 0).int) 0 (aF (gd (dpS p) 5)).rows.length)&&ltI (ixF (fun k=>(gd q 0).int==(gd ((aF (gd (dpS p) 5)).rows.getD k []) 0).int) 0 (aF (gd (dpS p) 5)).rows.length) ((gd (dpS p) 5).rows.length:Int)&&((w64 ((ixF (fun k=>(gd q 0).int==(gd ((aF (gd (dpS p) 5)).rows.getD k []) 0).int) 0 (aF (gd (dpS p) 5)).rows.length)+1))==(ixF (fun k=>(gd q 0).int==(gd ((aF (gd (dpS p) 5)).rows.getD k []) 0).int) 0 (aF (gd (dpS p) 5)).rows.length)+1)) (nd (lK (gd (dpS p) 7)&&leI ((gd (dpS p) 7).rows.length:Int) 40000) (some (1,[gd (dpS p) 0,gd (dpS p) 1,gd (dpS p) 2,oQ (gd (dpS p) 3) (gd ((gd (dpS p) 5).rows.getD (ixF (fun k=>(gd q 0).int==(gd ((aF (gd (dpS p) 5)).rows.getD k []) 0).int) 0 (aF (gd (dpS p) 5)).rows.length).toNat []) 1),li (gd (dpS p) 4) (gd q 0),og (gd (dpS p) 5) (ixF (fun k=>(gd q 0).int==(gd ((aF (gd (dpS p) 5)).rows.getD k []) 0).int) 0 (aF (gd (dpS p) 5)).rows.length),qG (gd (dpS p) 6) (.l [[.l [[gd q 0]]]]),bQ (gd (dpS p) 7) (gd q 0),gd (dpS p) 8,.i 0])))))
 else nd (leI 0 (ixF (fun k=>(gd q 0).int==(gd ((aF (gd (dpS p) 5)).rows.getD k []) 0).int) 0 (aF (gd (dpS p) 5)).rows.length)&&ltI (ixF (fun k=>(gd q 0).int==(gd ((aF (gd (dpS p) 5)).rows.getD k []) 0).int) 0 (aF (gd (dpS p) 5)).rows.length) ((gd (dpS p) 5).rows.length:Int)&&((w64 ((ixF (fun k=>(gd q 0).int==(gd ((aF (gd (dpS p) 5)).rows.getD k []) 0).int) 0 (aF (gd (dpS p) 5)).rows.length)+1))==(ixF (fun k=>(gd q 0).int==(gd ((aF (gd (dpS p) 5)).rows.getD k []) 0).int) 0 (aF (gd (dpS p) 5)).rows.length)+1)) (nd (lK (gd (dpS p) 7)&&leI ((gd (dpS p) 7).rows.length:Int) 40000) (some (1,sub (dpS p) 0 4 ++ [li (gd (dpS p) 4) (gd q 0),og (gd (dpS p) 5) (ixF (fun k=>(gd q 0).int==(gd ((aF (gd (dpS p) 5)).rows.getD k []) 0).int) 0 (aF (gd (dpS p) 5)).rows.length),qG (gd (dpS p) 6) (.l [[.l [[gd q 0]]]]),bQ (gd (dpS p) 7) (gd q 0),gd (dpS p) 8,.i 0])))
 else nd (lK (gd (dpS p) 7)&&leI ((gd (dpS p) 7).rows.length:Int) 40000) (some (1,sub (dpS p) 0 4 ++ [li (gd (dpS p) 4) (gd q 0),gd (dpS p) 5,qG (gd (dpS p) 6) (.l [[.l [[gd q 0]]]]),bQ (gd (dpS p) 7) (gd q 0),gd (dpS p) 8,.i 0])))))):=by kernel_rfl
abbrev dH(p:b8):D:=gd (dpS p) 5
def Lh(p:b8)(n:D):Int:=ixF (fun k=>n.int==(gd ((aF (dH p)).rows.getD k []) 0).int) 0 (aF (dH p)).rows.length
def Zw(p:b8)(n C H:D):b8:= [gd (dpS p) 0,gd (dpS p) 1,gd (dpS p) 2,C,li (gd (dpS p) 4) n,H,qG (gd (dpS p) 6) (.l [[.l [[n]]]]),bQ (gd (dpS p) 7) n,gd (dpS p) 8,.i 0]
def jB(p:b8)(n y:D):b8:=
 bif !(aW (sub p 0 9)) then jI ++ [.i 1] else bif !(inB n.int 1 60) then jI ++ [.i 1]
 else bif aC (gd p 7) n.int then dpS p ++ [.i 2]
 else bif leI 0 (Lh p n) then Zw p n (bif y.bool then oQ (gd (dpS p) 3) (gd ((dH p).rows.getD (Lh p n).toNat []) 1) else gd (dpS p) 3) (og (dH p) (Lh p n))
 else Zw p n (gd (dpS p) 3) (dH p)
def xR:Ent:=(39,e3 (ag aR) ri rb fun p q r=>(⟨.tup [.agg sa,.c (.d si)],sub (jB p (gd q 0) (gd r 0)) 0 10⟩,bG p))
theorem Ir:ay f8 xR:=gW fun p q r h=>au (N:=0) (ks:=xg) (al (fC ⟨vX,fC ⟨tM,fC ⟨yL,fC ⟨He,fC ⟨np,fC ⟨aiz,fC ⟨KH,fC ⟨adq,fC ⟨KB,fC ⟨Ys,fC ⟨sV,fC ⟨xF,fC ⟨DG,fN⟩⟩⟩⟩⟩⟩⟩⟩⟩⟩⟩⟩⟩)) Tryz.func39 fun hw=>by
 rw[GM];have h:bG (sub p 0 9)=true:=h;refine congrArg (fun x=>some (bo,x)) ?_;show _=some (1,sub (jB p (gd q 0) (gd r 0)) 0 10);unfold jB;rw[h,aU];cases hsh:aW (sub p 0 9) with
 | false=>rfl
 | true =>
 rw[n4,f9,f9];cases hin:inB (gd q 0).int 1 60 with
 | false=>rfl
 | true =>
 rw[n4,f9,f9,gr hsh,aU];cases h7:aC (gd p 7) (gd q 0).int with
 | true=>rfl
 | false =>
 rw[f9,f9];obtain⟨_,a1,J,a2,a0,_⟩:=dF hsh;have J:(gd p 5).rows.length<=60:=J;have a3:(gd (dpS p) 5).rows.length<=60:=m8 (jy _ _ _) J;have O:leI ((gd (dpS p) 5).rows.length:Int) 1000000000=true:=bi (by omega);have s:=(gf _).1 hsh;have V:lK (gd (dpS p) 7)=true:=CE s.e;have U:leI ((gd (dpS p) 7).rows.length:Int) 40000=true:=bi (by have:(gd p 7).rows.length<=60:=sR (z:=gd (sub p 0 9) 7) s.e s.e1;show ((gd p 7).rows.length:Int)<=40000;omega);rw[O,V,U,aU];have M:(aF (gd (dpS p) 5)).rows.length=(gd (dpS p) 5).rows.length:=r9 ..;have y:=qV (fun k=>(gd q 0).int==(gd ((aF (gd (dpS p) 5)).rows.getD k []) 0).int) (aF (gd (dpS p) 5)).rows.length 0;have he:ixF (fun k=>(gd q 0).int==(gd ((aF (gd (dpS p) 5)).rows.getD k []) 0).int) 0 (aF (gd (dpS p) 5)).rows.length=Lh p (gd q 0):=rfl;rw[he] at y ⊢;rcases y with⟨y,_⟩ | ⟨k,hk,y,_⟩
 ·rw[y];rfl
 ·rw[m0] at y;rw[M] at hk;have W:leI 0 (Lh p (gd q 0))=true:=by rw[y];exact bi (by omega)
  have Y:ah (Lh p (gd q 0)) (gd (dpS p) 5).rows.length=true:=by rw[y];exact bK hk
  have Z:ltI (Lh p (gd q 0)) ((gd (dpS p) 5).rows.length:Int)=true:=by rw[y];exact gy hk
  have c4:(w64 (Lh p (gd q 0)+1)==Lh p (gd q 0)+1)=true:=by rw[y,bD (by omega) (by omega),s9]
  rw[W,Y,Z,c4];cases (gd r 0).bool with
  | false=>rfl
  | true =>simp only[bn,u5,aU];rfl
theorem Pj(z:D){a b:D}(h:a.int<=b.int):∀k,(ic z a k).int<=(ic z b k).int
 | 0=>h
 | k+1=>by have U:=Pj z h k;rw[ic,ic];generalize ic z a k=x at *;generalize ic z b k=y at *;generalize gd (z.rows.getD k []) 0=lo;generalize gd (z.rows.getD k []) 1=hi;by_cases h1:lo.int<=x.int <;> by_cases J:x.int<hi.int <;> by_cases M:lo.int<=y.int <;> by_cases O:y.int<hi.int <;> simp only[leI,ltI,h1,J,M,O,decide_true,decide_false,E6,E4,y7,A9,g6,f9] <;> omega
theorem abR{z:D}{lo hi a b:D}(h:aT z [lo,hi]=true)(h1:lo.int<=a.int)(M:b.int<=hi.int)(J:ax [a,b]=true):aT z [a,b]=true:=by unfold aT at h ⊢;rw[a9,a9] at h ⊢;refine⟨h.1,J,?_⟩;have y:=h.2.2;unfold ge at y ⊢;have O:=Pj z h1 z.rows.length;have y:leI hi.int (ic z lo z.rows.length).int=true:=y;show leI b.int (ic z a z.rows.length).int=true;simp only[leI,g5] at y ⊢;omega
theorem ND{r:b8}(h:inB (gd r 0).int 0 999=true):(gd (fu r) 1).int=(gd r 0).int+1:=by simp only[inB,a9,g5] at h;exact bD (by omega) (by omega)
theorem Wf{r:b8}(h:inB (gd r 0).int 0 999=true):ax (fu r)=true:=by have h1:=ND h;simp only[inB,a9,g5] at h;unfold ax;rw[h1];show (decide ((gd r 0).int>=0)&&(decide ((gd r 0).int<(gd r 0).int+1)&&decide ((gd r 0).int+1<=1000)))=true;simp only[a9,g5];omega
theorem Xp{z:D}{r x:b8}(h:aT z (fu r)=true)(e:(gd r 0).int=(gd x 0).int):aT z (fu x)=true:=by refine abR (lo:=gd r 0) (hi:=.i (w64 ((gd r 0).int+1))) h (Int.le_of_eq e) (Int.le_of_eq (by show w64 ((gd x 0).int+1)=w64 ((gd r 0).int+1);rw[e])) ?_;unfold aT at h;rw[a9,a9] at h;have h:=h.2.1;unfold ax at h ⊢;have y:(gd (fu r) 0).int=(gd r 0).int:=rfl;have e1:(gd (fu r) 1).int=w64 ((gd r 0).int+1):=rfl;show (decide ((gd x 0).int>=0)&&(decide ((gd x 0).int<w64 ((gd x 0).int+1))&&decide (w64 ((gd x 0).int+1)<=1000)))=true;rw[y,e1,e] at h;exact h
theorem Ts{r:b8}{n:D}{a:b8}(h:oI r n a (.i 2)=true):(gd r 0).int=n.int/\(gd r 1).int<=(gd a 0).int/\(gd a 1).int<=(gd r 2).int/\2<=(gd r 3).int:=by
 unfold oI gK at h;rw[a9,a9,u7] at h;obtain⟨h1,y,M⟩:=h;revert y;cases ax (sub a 0 2) <;> cases ax (sub [gd r 1,gd r 2] 0 2) <;> simp only[g6,f9] <;> intro y
 ·cases y
 ·cases y
 ·cases y
 ·have M:(2:Int)<=(gd r 3).int:=i7 M;cases J:leI (gd [gd r 1,gd r 2] 0).int (gd a 0).int with
  | false=>rw[J] at y;cases y
  | true =>rw[J,g6] at y;have J:(gd r 1).int<=(gd a 0).int:=i7 J;have y:(gd a 1).int<=(gd r 2).int:=i7 y;exact⟨h1,J,y,M⟩
theorem ajc{l:D}(h:aY l=true){a b:b8}(O:a∈l.rows)(U:b∈l.rows)(y:(gd a 0).int≠(gd b 0).int):cX a b=false:=by
 obtain⟨_,J,_⟩:=(dU l).1 h;obtain⟨i,hi,rfl⟩:=t9 O;obtain⟨j,M,rfl⟩:=t9 U;rcases M0 i j with hij | hij | hij
 ·rw[Oc];exact y6.1 J i j hi M hij
 ·subst hij;exact absurd rfl y
 ·exact y6.1 J j i M hi hij
theorem ZZ{l:D}(h:aY l=true){n m:D}{v w:b8}(hv:holds l n (fu v) (.i 2)=true)(hw:holds l m (fu w) (.i 2)=true)(J:n.int≠m.int)(kv:inB (gd v 0).int 0 999=true)(kw:inB (gd w 0).int 0 999=true):(gd v 0).int≠(gd w 0).int:=by
 intro e;obtain⟨a,W,h1⟩:=jL.1 hv;obtain⟨b,hb,Z⟩:=jL.1 hw;obtain⟨V,a1,a2,a3⟩:=Ts h1;obtain⟨M,b1,b2,b3⟩:=Ts Z;have e1:=ND kv;have e2:=ND kw;have e3:(gd (fu v) 0).int=(gd v 0).int:=rfl;have e4:(gd (fu w) 0).int=(gd w 0).int:=rfl;have y:=ajc h W hb (by rw[V,M];exact J);have hm:=((dU l).1 h).1 a W;simp only[rz,a9] at hm;have hm:=hm.2.2;unfold dn at hm;have O:((gd a 3).int==2)=true:=by
  cases U:(gd [gd a 3] 0).int==1 with
  | true =>have:(gd a 3).int=1:=u7.1 U;omega
  | false=>rw[U] at hm;exact hm
 unfold cX eJ at y;rw[O,show ((gd a 0).int != (gd b 0).int)=true from by rw[V,M];simpa using J] at y;have t1:ltI (gd a 1).int (gd b 2).int=true:=lp (by omega);have Y:ltI (gd b 1).int (gd a 2).int=true:=lp (by omega);have y:(bif ltI (gd a 1).int (gd b 2).int then ltI (gd b 1).int (gd a 2).int else false)=false:=y;rw[t1,Y] at y;cases y
theorem Jx(z n:D):(qG z (.l [[.l [[n]]]])).rows=z.rows.filter fun r => !((gd r 0).int==n.int):=rfl
theorem Bu{z n:D}{r:b8}:r∈(qG z (.l [[.l [[n]]]])).rows↔r∈z.rows/\(gd r 0).int≠n.int:=by rw[Jx,B7];simp
theorem Ya{z n:D}{m:Int}:m∈an (qG z (.l [[.l [[n]]]]))↔m∈an z/\m≠n.int:=by
 rw[dS,dS];constructor
 ·rintro⟨r,y,rfl⟩;obtain⟨h1,J⟩:=Bu.1 y;exact⟨⟨r,h1,rfl⟩,J⟩
 ·rintro⟨⟨r,y,rfl⟩,h⟩;exact⟨r,Bu.2 ⟨y,h⟩,rfl⟩
theorem Td{z n:D}(h:aY z=true){r:b8}:r∈(li z n).rows↔r∈z.rows/\(gd r 0).int≠n.int:=by rw[aaZ h,B7];simp
theorem acE{z n:D}(h:(an z).Pairwise (· < ·)){m:Int}:m∈an (bQ z n)↔m=n.int\/m∈an z:=by rw[gG h,yu]
theorem TJ{h:D}(O:(an h).Pairwise (· < ·)){k:Nat}(hk:k<h.rows.length){r:b8}:r∈(og h (k:Int)).rows↔r∈h.rows/\(gd r 0).int≠(gd (h.rows.getD k []) 0).int:=by
 show r∈h.rows.take (k:Int).toNat++h.rows.drop ((k:Int).toNat+1)↔_;rw[g8,n3];have J:=za (f:=fun k=>(gd (h.rows.getD k []) 0).int) (zT.1 O);constructor
 ·rintro (h1 | h1)
  ·obtain⟨j,y,rfl⟩:=t9 h1;rw[w5] at y;rw[M4];refine⟨v6 _,?_⟩;have:=J k j (by omega) hk;rw[<- aZ (show j<h.rows.length by omega)];omega
  ·obtain⟨j,y,rfl⟩:=t9 h1;rw[v9] at y;rw[M5];refine⟨v6 _,?_⟩;have:=J (k+1+j) k (by omega) (by omega);rw[<- aZ (show k+1+j<h.rows.length by omega)];omega
 ·rintro⟨h1,M⟩;obtain⟨j,y,rfl⟩:=t9 h1;rw[<- aZ y] at M;rcases M0 j k with h3 | h3 | h3
  ·exact .inl (I5.2 ⟨j,by rw[w5];omega,M4 ..⟩)
  ·subst h3;exact absurd rfl M
  ·refine .inr (I5.2 ⟨j - (k+1),by rw[v9];omega,?_⟩);rw[M5]
   congr 1
   omega
theorem ahq{h:D}(y:(an h).Pairwise (· < ·))(k:Nat):(an (og h (k:Int))).Pairwise (· < ·):=by
 have:an (og h (k:Int))=(an h).take k++(an h).drop (k+1):=by unfold an og;rw[bd,y8,N6,N7,g8]
 rw[this];refine y.sublist ?_;rw[show (an h).take k++(an h).drop (k+1)=(an h).eraseIdx k from (List.eraseIdx_eq_take_drop_succ ..).symm];exact List.eraseIdx_sublist ..
theorem abn(c:D){h:D}{k:Nat}(hk:k<h.rows.length):gi c (og h (k:Int)).rows+bk c (gd (h.rows.getD k []) 1)=gi c h.rows:=by
 show gi c (h.rows.take (k:Int).toNat++h.rows.drop ((k:Int).toNat+1))+_=_;rw[g8,yN];have e:gi c h.rows=gi c (h.rows.take k)+(bk c (gd (h.rows.getD k []) 1)+gi c (h.rows.drop (k+1))):=by
  have e1:h.rows=h.rows.take k++(h.rows.getD k []::h.rows.drop (k+1)):=by rw[aZ hk,<- K7 hk,H3]
  conv=>lhs;rw[e1]
  rw[yN]
  congr 1
 omega
theorem aaY{c y:D}{l:List b8}(h:∀r∈l,bk c (gd r 1)=bk y (gd r 1)):gi c l=gi y l:=by
 unfold gi
 congr 1
 exact D4 h
theorem agv{p:b8}{n C H:D}(hsh:aW (sub p 0 9)=true)(hin:inB n.int 1 60=true)(hC:aN C=true)(a6:∀r∈C.rows,aT (gd p 1) (fu r)=true)(hH:(an H).Pairwise (· < ·))(a5:∀r∈H.rows,r∈(dH p).rows/\(gd r 0).int≠n.int)
  (V:(C.rows.length:Int)+gi C H.rows<=60):SOk (sub (Zw p n C H) 0 9):=by
 have s:=(gf _).1 hsh;have U:aY (.l (gd p 4).rows)=true:=s.lk;have a3:∀r∈(gd p 4).rows,LOk (gd p 1) (gd p 6) (gd p 7) r:=s.lo;have a2:∀r∈(gd p 5).rows,HOk (gd p 4) (gd p 6) (gd p 7) r:=s.h1;have a1:∀m∈an (gd p 6),m ∉ an (gd p 7):=s.we;have a4:∀r∈(gd p 6).rows,inB (gd r 0).int 1 60=true:=s.w1;have se:(an (.l (gd p 7).rows)).Pairwise (· < ·):=s.e;have a0:∀r∈(gd p 7).rows,inB (gd r 0).int 1 60=true:=s.e1;have O:∀m,m∈an (bQ (.l (gd p 7).rows) n)↔m=n.int\/m∈an (gd p 7):=fun m=>acE se
 have W:∀m,m∈an (qG (.l (gd p 6).rows) (.l [[.l [[n]]]]))↔m∈an (gd p 6)/\m≠n.int:=fun m=>Ya
 have hL:∀r,r∈(li (.l (gd p 4).rows) n).rows↔r∈(gd p 4).rows/\(gd r 0).int≠n.int:=fun r=>Td U
 refine⟨s.me,s.own,s.frz,hC,ahh U,s.rk,?_,fun r J=>?_,Vo se,fun r J=>?_,fun r J=>(Qt _ _).trans (s.fr r J),fun r J=>(Qt _ _).trans (a6 r J),fun r J=>?_,fun m hm=>?_,hH,fun r J=>?_,V⟩
 ·have:an (qG (.l (gd p 6).rows) (.l [[.l [[n]]]]))=(an (gd p 6)).filter fun m => !(m==n.int):=by unfold an;rw[Jx,K0];rfl
  show (an (qG (.l (gd p 6).rows) (.l [[.l [[n]]]]))).Pairwise (· < ·);rw[this];exact List.Pairwise.filter _ s.w
 ·exact a4 r (Bu.1 J).1
 ·have hm:(gd r 0).int∈an (bQ (.l (gd p 7).rows) n):=(dS _ _).2 ⟨r,J,rfl⟩;rcases (O _).1 hm with h | h
  ·rw[h];exact hin
  ·obtain⟨x,Z,e⟩:=(dS _ _).1 h;rw[<- e];exact a0 x Z
 ·obtain⟨h1,M⟩:=(hL r).1 J;have Y:=a3 r h1;refine⟨(Qt _ _).trans Y.rg,fun hm=>Y.nw ((W _).1 hm).1,fun hm=>?_⟩;rcases (O _).1 hm with h | h
  ·exact M h
  ·exact Y.ne h
 ·obtain⟨h1,M⟩:=(W m).1 hm;intro hm;rcases (O _).1 hm with h | h
  ·exact M h
  ·exact a1 m h1 h
 ·obtain⟨h1,M⟩:=a5 r J;have h1:r∈(gd (dpS p) 5).rows:=h1;rw[eG] at h1;obtain⟨x,Z,rfl⟩:=A8.1 h1;have H:=a2 x Z;refine⟨H.tx,H.ws,fun v hv=>?_,fun hm=>H.nw ((W _).1 hm).1,fun hm=>?_⟩
  ·obtain⟨y,hy,h⟩:=jL.1 (H.lk v hv);refine jL.2 ⟨y,(hL y).2 ⟨hy,?_⟩,h⟩;rw[OH h];exact M
  ·rcases (O _).1 hm with h | h
   ·exact M h
   ·exact H.ne h
theorem abz{p:b8}{n:D}(J:n.int∈an (gd p 5)):∃k:Nat,k<(dH p).rows.length/\Lh p n=(k:Int)/\(gd ((dH p).rows.getD k []) 0).int=n.int:=by
 have hl:(aF (dH p)).rows.length=(dH p).rows.length:=r9 ..;have y:∀k,k<(dH p).rows.length->gd ((aF (dH p)).rows.getD k []) 0=gd ((dH p).rows.getD k []) 0:=fun k hk=>by show gd (((dH p).rows.map fun r => [gd r 0]).getD k []) 0=_;rw[g4,w9,g9 hk,aZ hk];rfl
 rcases qV (fun k=>n.int==(gd ((aF (dH p)).rows.getD k []) 0).int) (aF (dH p)).rows.length 0 with⟨_,h⟩ | ⟨k,h1,h2,h3,_⟩
 ·have J:n.int∈an (gd (sub p 0 9) 5):=J;rw[<- tY (sub p 0 9)] at J;obtain⟨r,M,e⟩:=(dS _ _).1 J;obtain⟨k,hk,rfl⟩:=t9 M;have hk:k<(dH p).rows.length:=hk;have:=h k (by rw[hl];exact hk);simp only[m0] at this;rw[y k hk,aZ hk] at this;have e:(gd (dH p).rows[k] 0).int=n.int:=e;rw[e,s9] at this;cases this
 ·simp only[m0] at h2 h3;rw[hl] at h1;refine⟨k,h1,h2,?_⟩;rw[y k h1] at h3;exact (u7.1 h3).symm
theorem agR{p:b8}(hsh:aW (sub p 0 9)=true):((gd p 3).rows.length:Int)+gi (gd p 3) (dH p).rows<=60:=by have s:=(gf _).1 hsh;have:=s.sum;rw[ade];exact this
theorem acO{p:b8}(hsh:aW (sub p 0 9)=true){w:D}:aL w=true->0<=bk (gd p 3) w:=fun hw=>by have s:=(gf _).1 hsh;have st:aN (gd p 3)=true:=s.st;rw[agC st hw];exact Int.natCast_nonneg _
section
variable {p:b8} {n:D} (hsh:aW (sub p 0 9)=true) (hin:inB n.int 1 60=true)
include hsh hin
theorem ahI{k:Nat}(hk:k<(dH p).rows.length)(U:(gd ((dH p).rows.getD k []) 0).int=n.int):SOk (sub (Zw p n (gd (dpS p) 3) (og (dH p) (k:Int))) 0 9):=by
 have s:=(gf _).1 hsh;have J:(an (dH p)).Pairwise (· < ·):=by show (an (gd (dpS p) 5)).Pairwise (· < ·);rw[tY];exact s.h
 have y:(dH p).rows.getD k []∈(gd (dpS p) 5).rows:=by rw[aZ hk];exact v6 hk
 refine agv hsh hin s.st s.ce (ahq J k) (fun r M=>?_) ?_
 ·have:=(TJ J hk).1 M
  rwa [U] at this
 ·have h1:=agR hsh;have V:=abn (gd p 3) hk;have W:0<=bk (gd p 3) (gd ((dH p).rows.getD k []) 1):=by refine acO hsh ?_;rw[eG] at y;obtain⟨x,O,e⟩:=A8.1 y;rw[<- e];exact (s.h1 x O).ws
  show ((gd p 3).rows.length:Int)+gi (gd p 3) (og (dH p) (k:Int)).rows<=60;omega
theorem Sg{k:Nat}(hk:k<(dH p).rows.length)(hn:(gd ((dH p).rows.getD k []) 0).int=n.int) :
  aL (gd ((dH p).rows.getD k []) 1)=true/\((gd p 3).rows.length:Int)+bk (gd p 3) (gd ((dH p).rows.getD k []) 1)<=60 /\
  oQ (gd (dpS p) 3) (gd ((dH p).rows.getD k []) 1)=wrD (.l (gd p 3).rows) (gd ((dH p).rows.getD k []) 1) (gd ((dH p).rows.getD k []) 1).rows.length /\
  SOk (sub (Zw p n (wrD (.l (gd p 3).rows) (gd ((dH p).rows.getD k []) 1) (gd ((dH p).rows.getD k []) 1).rows.length) (og (dH p) (k:Int))) 0 9):=by
 have s:=(gf _).1 hsh;have st:aN (.l (gd p 3).rows)=true:=s.st;have a1:aY (gd p 4)=true:=s.lk;have a0:∀r∈(gd p 3).rows,aT (gd p 1) (fu r)=true:=s.ce;have a4:∀r∈(gd p 4).rows,LOk (gd p 1) (gd p 6) (gd p 7) r:=s.lo;have a2:∀r∈(gd p 5).rows,HOk (gd p 4) (gd p 6) (gd p 7) r:=s.h1;have Z:(an (dH p)).Pairwise (· < ·):=by show (an (gd (dpS p) 5)).Pairwise (· < ·);rw[tY];exact s.h
 have V:(dH p).rows.getD k []∈(gd (dpS p) 5).rows:=by rw[aZ hk];exact v6 hk
 have hd:=abn (gd p 3) hk;have a6:=agR hsh;have U:∀r∈(dH p).rows,HOk (gd p 4) (gd p 6) (gd p 7) r:=fun r J=>by have J:r∈(gd (dpS p) 5).rows:=J;rw[eG] at J;obtain⟨x,hx,rfl⟩:=A8.1 J;have H:=a2 x hx;exact⟨H.tx,H.ws,H.lk,H.nw,H.ne⟩
 have W:=U _ V;have a7:0<=gi (gd p 3) (og (dH p) (k:Int)).rows:=by
  have:∀l:List b8,(∀r∈l,r∈(dH p).rows)->0<=gi (gd p 3) l:=fun l=>by
   induction l with
   | nil=>exact fun _=>J4 _
   | cons a l ih =>
    intro h;have h1:=ih fun r J=>h r (by simp[J])
    have h2:=acO hsh (U a (h a (by simp))).ws;have e:gi (gd p 3) (a::l)=bk (gd p 3) (gd a 1)+gi (gd p 3) l:=by unfold gi;rw[w8,List.sum_cons]
    omega
  exact this _ fun r J=>((TJ Z hk).1 J).1
 have O:=fun r=>TJ Z hk (r:=r)
 obtain⟨h,hh⟩:∃h,h=(dH p).rows.getD k []:=⟨_,rfl⟩;rw[<- hh] at hn V hd W O ⊢;have hw:=W.ws;obtain⟨_,wk,_⟩:=(kR _).1 hw;have M:bk (.l (gd p 3).rows) (gd h 1)=bk (gd p 3) (gd h 1):=rfl;have hl:((D.l (gd p 3).rows).rows.length:Int)+bk (.l (gd p 3).rows) (gd h 1)<=60:=by rw[M,bd];omega
 have a5:=FD st hw hl;have Y:=SC st hw;refine⟨hw,by rw[M,bd] at hl;exact hl,?_,?_⟩
 ·have hb:vV (gd (dpS p) 3) (gd h 1)=true:=by unfold vV;have e1:aN (gd (dpS p) 3)=true:=st;rw[e1,hw];have:ltI 60 ((wrD (.l (gd (dpS p) 3).rows) (gd h 1) (gd h 1).rows.length).rows.length:Int)=false:=iI (by show ((wrD (.l (gd p 3).rows) (gd h 1) (gd h 1).rows.length).rows.length:Int)<=60;omega);rw[this];rfl
  unfold oQ;rw[hb];rfl
 ·refine agv hsh hin a5 (fun r J=>?_) (ahq Z k) (fun r J=>?_) ?_
  ·have hm:((gd r 0).int,(gd r 1).int)∈prs (wrD (.l (gd p 3).rows) (gd h 1) (gd h 1).rows.length):=A8.2 ⟨r,J,rfl⟩;rcases (qf st hw _).1 hm with⟨v,hv,_,e⟩ | ⟨hm,_⟩
   ·have e:(gd r 0).int=(gd v 0).int:=congrArg Prod.fst e;have a3:=(wk v hv).1;obtain⟨y,hy,h2⟩:=jL.1 (W.lk v hv);obtain⟨_,b1,b2,_⟩:=Ts h2;refine Xp (r:=v) ?_ e.symm;exact abR (lo:=gd y 1) (hi:=gd y 2) (a4 y hy).rg b1 b2 (Wf a3)
   ·obtain⟨x,hx,e⟩:=A8.1 hm;have e:(gd x 0).int=(gd r 0).int:=congrArg Prod.fst e;exact Xp (a0 x hx) e
  ·have:=(O r).1 J
   rwa [hn] at this
  ·have he:gi (wrD (.l (gd p 3).rows) (gd h 1) (gd h 1).rows.length) (og (dH p) (k:Int)).rows=gi (gd p 3) (og (dH p) (k:Int)).rows:=by
    refine aaY fun r J=>?_
    obtain⟨r1,r2⟩:=(O r).1 J;have R:=U r r1;obtain⟨_,rk,_⟩:=(kR _).1 R.ws;exact aex st hw hl fun a ha v hv=>ZZ a1 (R.lk a ha) (W.lk v hv) r2 (rk a ha).1 (wk v hv).1
   rw[he];rw[M,bd] at Y;omega
end
theorem LY(p:b8)(n u:D){c:D}(hc:c.int≠1):∀k,(bR p n u c k).2.2.int≠1
 | 0=>hc
 | k+1=>by
  have y:=LY p n u hc k;rw[bR];cases (bR p n u c k).2.2.int==0 with
  | false=>exact y
  | true =>
   rw[g6];generalize dB (bR p n u c k).1 (aF (gd (dpS p) 5)) n (cS u k) (.i 2)=A;cases (gd A 2).int==2 with
   | true=>rw[g6];show (5:Int)≠1;decide
   | false =>
    cases (gd A 2).int==3 with
    | true=>rw[f9,g6];show (6:Int)≠1;decide
    | false=>rw[f9,f9];show (0:Int)≠1;decide
theorem aig(p:b8)(n z u:D):(ox p n z u).int≠1:=by unfold ox rV;rw[aA];generalize aC (gd (sub p 0 9) 7) (gd [n] 0).int=a;generalize aC (gd (sub p 0 9) 6) (gd [n] 0).int=b;generalize eL (fun y=>kp (.l [[.l [sub (sub p 0 9) 0 9],.l [[gd [n] 0]]]]) (sub y 0 2)) (gd [z] 0)=c;generalize eL (fun y=>kz (.l [[.l [sub (sub p 0 9) 0 9]]]) (sub y 0 2)) (gd [u] 0)=d;cases a <;> cases b <;> cases c <;> cases d <;> decide
theorem Rx(p:b8)(n z u:D):prI p n z u=jI ++ [.i 1]\/(∃c:D,c.int≠1/\prI p n z u=dpS p ++ [c])\/(gd (prI p n z u) 9).int=0:=by
 unfold prI;cases !(aW (sub p 0 9)) with
 | true=>exact .inl rfl
 | false =>
 rw[f9];cases !(inB n.int 1 60) with
 | true=>exact .inl rfl
 | false =>
 rw[f9];cases ltI 16 (z.rows.length:Int) with
 | true=>exact .inl rfl
 | false =>
 rw[f9];cases eL (fun y=>jK (.l [[]]) (sub y 0 2)) z with
 | true=>exact .inl rfl
 | false =>
 rw[f9];cases !(aL u) with
 | true=>exact .inl rfl
 | false =>
 rw[f9];cases aC (aF (gd p 5)) n.int with
 | true=>exact .inr (.inl ⟨.i 0,by decide,rfl⟩)
 | false =>
 rw[f9];have hc:=LY p n u (aig p n z u) u.rows.length;unfold Yl;generalize bR p n u (ox p n z u) u.rows.length=x at hc ⊢;cases x.2.2.int==0 with
 | false=>exact .inr (.inl ⟨_,hc,rfl⟩)
 | true =>
  rw[g6];cases ltI 60 (w64 (iQ (sub p 0 9)+bk (gd p 3) u)) with
  | true=>exact .inr (.inl ⟨.i 6,by decide,rfl⟩)
  | false=>exact .inr (.inr rfl)
theorem ajY{p:b8}{n z u:D}(h:(gd (prI p n z u) 9).int=1):(gd (prI p n z u) 1).rows.length=0/\(gd (prI p n z u) 8).int=0:=by
 rcases Rx p n z u with e | ⟨c,hc,e⟩ | e
 ·rw[e];exact⟨rfl,rfl⟩
 ·rw[e] at h;exact absurd h hc
 ·rw[e] at h;exact absurd h (by decide)
theorem ahP{p:b8}{n z u:D}(y:(gd (prI p n z u) 9).int≠0)(h1:(gd (prI p n z u) 9).int≠1):gd (prI p n z u) 3=.l (gd p 3).rows/\gd (prI p n z u) 4=.l (gd p 4).rows/\(gd (prI p n z u) 5).rows.length=(gd p 5).rows.length:=by
 rcases Rx p n z u with e | ⟨c,hc,e⟩ | e
 ·rw[e] at h1;exact absurd rfl h1
 ·rw[e];refine⟨rfl,rfl,?_⟩;show (gd (dpS p) 5).rows.length=_;rw[eG,bd,r9];rfl
 ·exact absurd e y
theorem ajO{p:b8}{n z u:D}(y:(gd (prI p n z u) 9).int=0)(hl:(gd p 5).rows.length<(gd (prI p n z u) 5).rows.length) : [n,.l u.rows]∈(gd (prI p n z u) 5).rows:=by
 obtain⟨hsh,hin,hwo,h⟩:=xS y;rcases h with⟨J,e⟩ | ⟨L,W,N,e⟩
 ·rw[e] at hl;have hl:(gd p 5).rows.length<(gd (dpS p) 5).rows.length:=hl;rw[eG,bd,r9] at hl;exact absurd hl (Nat.lt_irrefl _)
 ·rw[e];exact VI.2 (.inr rfl)
theorem abe{p:b8}{n z u:D}(y:(gd (prI p n z u) 9).int=0):gd (prI p n z u) 3=.l (gd p 3).rows:=by
 obtain⟨hsh,hin,hwo,h⟩:=xS y;rcases h with⟨J,e⟩ | ⟨L,W,N,e⟩
 ·rw[e];rfl
 ·rw[e];rfl
theorem aaS{o:b8}{n:D}(hsh:aW (sub o 0 9)=true)(hin:inB n.int 1 60=true)(hm:n.int∈an (gd o 5)):prI o n (.l []) (.l [])=dpS o ++ [.i 0]:=by
 have J:aC (aF (gd o 5)) n.int=true:=by rw[fW];obtain⟨r,y,e⟩:=(dS _ _).1 hm;exact (dS _ _).2 ⟨[gd r 0],A8.2 ⟨r,y,rfl⟩,e⟩
 unfold prI;rw[hsh,hin,J];rfl
theorem aeR{o:b8}{n:D}(hsh:aW (sub o 0 9)=true)(hin:inB n.int 1 60=true)(hm:n.int∈an (gd o 5)):(gd (prI o n (.l []) (.l [])) 9).int=0/\(gd (prI o n (.l []) (.l [])) 5).rows.length=(gd o 5).rows.length:=by rw[aaS hsh hin hm];refine⟨rfl,?_⟩;show (gd (dpS o) 5).rows.length=_;rw[eG,bd,r9];rfl
section
variable {o:b8} {n:D} (hsh:aW (sub o 0 9)=true) (hin:inB n.int 1 60=true) (hm:n.int∈an (gd o 5))
include hsh hin hm
omit hin in
theorem WA:aC (gd o 7) n.int=false:=by have s:=(gf _).1 hsh;obtain⟨r,y,e⟩:=(dS _ _).1 hm;have H:HOk (gd o 4) (gd o 6) (gd o 7) r:=s.h1 r y;rw[sY,<- e];exact H.ne
theorem amp:∃k:Nat,k<(dH o).rows.length/\(gd ((dH o).rows.getD k []) 0).int=n.int/\jB o n (.b false)=Zw o n (gd (dpS o) 3) (og (dH o) (k:Int)):=by
 obtain⟨k,h1,y,J⟩:=abz hm;refine⟨k,h1,J,?_⟩;have:leI 0 (Lh o n)=true:=by rw[y];exact B3 (Int.natCast_nonneg k)
 unfold jB;rw[hsh,hin,WA hsh hm,this,y];rfl
theorem Uz:∃k:Nat,k<(dH o).rows.length/\(gd ((dH o).rows.getD k []) 0).int=n.int/\jB o n (.b true)=Zw o n (oQ (gd (dpS o) 3) (gd ((dH o).rows.getD k []) 1)) (og (dH o) (k:Int)):=by
 obtain⟨k,h1,y,J⟩:=abz hm;refine⟨k,h1,J,?_⟩;have:leI 0 (Lh o n)=true:=by rw[y];exact B3 (Int.natCast_nonneg k)
 unfold jB;rw[hsh,hin,WA hsh hm,this,y];rfl
theorem ale:(gd (jB o n (.b false)) 9).int=0/\gd (jB o n (.b false)) 3=.l (gd o 3).rows/\aW (sub (jB o n (.b false)) 0 9)=true:=by obtain⟨k,h1,y,e⟩:=amp hsh hin hm;rw[e];exact⟨rfl,rfl,(gf _).2 (ahI hsh hin h1 y)⟩
theorem ack:(gd (jB o n (.b true)) 9).int=0/\aW (sub (jB o n (.b true)) 0 9)=true:=by obtain⟨k,h1,y,e⟩:=Uz hsh hin hm;obtain⟨_,_,e3,J⟩:=Sg hsh hin h1 y;rw[e];refine⟨rfl,?_⟩;rw[e3];exact (gf _).2 J
theorem ado:(nT (gd (jB o n (.b true)) 4) n).rows.length=0:=by
 obtain⟨k,h1,M,e⟩:=Uz hsh hin hm;have s:=(gf _).1 hsh;have y:aY (.l (gd o 4).rows)=true:=s.lk;have e4:gd (jB o n (.b true)) 4=li (.l (gd o 4).rows) n:=by rw[e];rfl
 rw[e4];unfold nT;cases aY (li (.l (gd o 4).rows) n) with
 | false=>rfl
 | true =>
  rw[g6];have:(UG (.l (li (.l (gd o 4).rows) n).rows) (.l [[.l [[n]]]])).rows=(li (.l (gd o 4).rows) n).rows.filter fun r => !((gd r 0).int != n.int):=rfl
  rw[this,L6,E5];intro r J;have:=((Td y).1 J).2;simp[this]
theorem afw:aC (gd (jB o n (.b true)) 7) n.int=true:=by obtain⟨k,h1,J,e⟩:=Uz hsh hin hm;have s:=(gf _).1 hsh;have y:(an (.l (gd o 7).rows)).Pairwise (· < ·):=s.e;rw[fW,e];exact (acE y).2 (.inl rfl)
theorem amm:(gd (jB (sub (jB o n (.b true)) 0 9) n (.b false)) 9).int=2/\gd (jB (sub (jB o n (.b true)) 0 9) n (.b false)) 3=.l (gd (jB o n (.b true)) 3).rows:=by
 have h1:=(ack hsh hin hm).2;have J:=afw hsh hin hm;generalize jB o n (.b true)=y at h1 J;have e:jB (sub y 0 9) n (.b false)=dpS y ++ [.i 2]:=by unfold jB;have h1:aW (sub (sub y 0 9) 0 9)=true:=h1;have J:aC (gd (sub y 0 9) 7) n.int=true:=J;rw[h1,hin,J];rfl
 rw[e];exact⟨rfl,rfl⟩
theorem aeX{x:b8}(hx:x∈(gd o 5).rows)(Y:(gd x 0).int=n.int):∀r∈(gd x 1).rows,(OA (gd (jB o n (.b true)) 3) (gd r 0)).int=(gd r 1).int/\bV (gd o 4) n (fu r) (.i 2)=true:=by
 obtain⟨k,h1,U,e⟩:=Uz hsh hin hm;obtain⟨hw,M,e3,h4⟩:=Sg hsh hin h1 U;have s:=(gf _).1 hsh;have st:aN (.l (gd o 3).rows)=true:=s.st;have a0:aY (gd o 4)=true:=s.lk;have H:HOk (gd o 4) (gd o 6) (gd o 7) x:=s.h1 x hx;have O:(dH o).rows.getD k []∈(gd (dpS o) 5).rows:=by rw[aZ h1];exact v6 h1
 rw[eG] at O;obtain⟨y,W,e5⟩:=A8.1 O;have W:y∈(gd o 5).rows:=W;have a1:y=x:=by
  have J:((gd o 5).rows.map fun r=>(gd r 0).int).Pairwise (· < ·):=s.h;have a2:(gd y 0).int=(gd x 0).int:=by rw[<- e5] at U;exact U.trans Y.symm
  clear e5 Y;have go:∀l:List b8,(l.map fun r=>(gd r 0).int).Pairwise (· < ·)->y∈l->x∈l->y=x:=by
   intro l
   induction l with
   | nil=>intro _ h;cases h
   | cons a l ih =>
    intro J m1 Z;rw[w8,H5] at J;rcases B5.1 m1 with g1 | g1
    ·rcases B5.1 Z with g2 | g2
     ·rw[g1,g2]
     ·have:=J.1 _ (A8.2 ⟨x,g2,rfl⟩);rw[<- g1] at this;omega
    ·rcases B5.1 Z with g2 | g2
     ·have:=J.1 _ (A8.2 ⟨y,g1,rfl⟩);rw[<- g2] at this;omega
     ·exact ih J.2 g1 g2
  exact go _ J W hx
 obtain⟨h,hh⟩:∃h,h=(dH o).rows.getD k []:=⟨_,rfl⟩;rw[<- hh] at U hw M e3 h4 e e5;subst a1;subst e5;have hl:((D.l (gd o 3).rows).rows.length:Int)+bk (.l (gd o 3).rows) (.l (gd y 1).rows)<=60:=M;have hw:aL (.l (gd y 1).rows)=true:=hw;intro r hr;have V:r∈(D.l (gd y 1).rows).rows:=hr;obtain⟨_,wk,_⟩:=(kR _).1 hw;have e4:gd (jB o n (.b true)) 3=wrD (.l (gd o 3).rows) (.l (gd y 1).rows) (D.l (gd y 1).rows).rows.length:=by rw[e];exact e3
 refine⟨?_,?_⟩
 ·rw[e4];unfold OA;rw[FD st hw hl,g6];exact adj st hw hl V
 ·have hk:=(wk r V).1;rw[<- zJ a0 (Wf hk)];have:=H.lk r hr;rw[<- this];unfold holds oI;rw[Y]
end
def GG(P:Nat->b8->Prop)(o:Out):Prop:=∃c l,o=some (c,l)/\P c l
theorem gnd{P:Nat->b8->Prop}{c:Bool}{t:Out}(hc:c=true)(h:GG P t):GG P (nd c t):=by rw[hc,aU];exact h
theorem amv{P:Nat->b8->Prop}{n:Nat}{c:Bool}{t:Out}(hc:c=true)(h:GG P t):GG P (ndN n c t):=by rw[hc,lB];exact h
theorem bt{P:Nat->b8->Prop}{c:Bool}{t u:Out}(h1:c=true->GG P t)(y:c=false->GG P u):GG P (bif c then t else u):=by
 cases c with
 | true=>exact h1 rfl
 | false=>exact y rfl
theorem bc{P:Nat->b8->Prop}{c:Nat}{l:b8}(h:P c l):GG P (some (c,l)):=⟨c,l,rfl,h⟩
theorem git{P:Nat->b8->Prop}{o:Out}{K:Out->Out}{c:Nat}(X:b8->Prop)(e:GG (fun y l=>y=c/\X l) o)(h:∀l,X l->GG P (K (some (c,l)))):GG P (nd o.isSome (nd (o.code==c) (K o))):=by obtain⟨y,l,rfl,rfl,J⟩:=e;have:(Out.code (some (y,l))==y)=true:=s9 _;rw[this];exact h l J
theorem gjn{P:Nat->b8->Prop}{o:Out}{K:Out->Out}(X:b8->Prop)(e:GG (fun c l=>c=0/\X l) o)(h:∀l,X l->GG P (K (some (0,l)))):GG P (nd o.isSome (K o)):=by obtain⟨J,l,rfl,rfl,y⟩:=e;exact h l y
theorem grd{P:Nat->b8->Prop}{L:b8->Out}{s s':b8}(y:s=s')(h:GG P (L s')):GG P (L s):=by rw[y];exact h
theorem geq{P:Nat->b8->Prop}{o y:Out}(e:o=y)(h:GG P y):GG P o:=by rw[e];exact h
theorem cH{o:Out}{n:Nat}{G:b8->Prop}(h:GG (fun c l=>c=1/\l=sub l 0 n/\G l) o):o=some (1,sub o.pay 0 n)/\G (sub o.pay 0 n):=by obtain⟨c,l,rfl,rfl,e,y⟩:=h;refine⟨congrArg (fun x=>some (1,x)) e,?_⟩;show G (sub l 0 n);rw[<- e];exact y
theorem ir{L:b8->Out}{Q:Nat->b8->Prop}(I:Nat->b8->Prop)(n:Nat)(h:∀k s,I k s->GG (fun c l=>(c=0/\k<n/\I (k+1) l)\/(c≠0/\Q c l)) (L s)) :
  ∀(N k:Nat) (st:b8),I k st->n<N+k->k<=n->GG Q (aX L N st)
 | 0,k,st,_,hN,hk=>by omega
 | N+1,k,st,h0,hN,hk=>by
  obtain⟨c,l,e,hc⟩:=h k st h0;rcases hc with⟨rfl,J,y⟩ | ⟨hc,hq⟩
  ·rw[rR e];exact ir I n h N (k+1) l y (by omega) (by omega)
  ·obtain⟨c,rfl⟩:∃d,c=d+1:=⟨c - 1,by omega⟩;rw[lZ e];exact⟨_,_,rfl,hq⟩
theorem dp{a b:Bool}(h1:a=true)(y:b=true):(a&&b)=true:=by rw[h1,y];rfl
theorem dQ{l:List b8}{r:b8}(h:l.length<4294967296):(bl (l ++ [r])&&true)=true:=by rw[E6];exact ci (by rw[i6,n9];omega)
theorem Xz(x:D)(l:b8):∀n o,sub (x::l) (o+1) n=sub l o n
 | 0,_=>rfl
 | n+1,o=>by rw[sub,sub,Xz x l n (o+1)];rfl
theorem ar:∀l:b8,l=sub l 0 l.length
 | []=>rfl
 | x::l=>by have y:=ar l;show x::l=gd (x::l) 0::sub (x::l) (0+1) l.length;rw[Xz,<- y];rfl
theorem amC(X:b8):sub X 0 1 = [gd (sub X 0 1) 0]:=rfl
def xA(z:D):Bool:=ltI 0 (z.rows.length:Int)
theorem gj(r:b8)(l:List b8):xA (.l (r::l))=true:=lp (by rw[bd,D8];omega)
def aw(a b:D):Bool:=leI 0 b.int&&leI (a.rows.length:Int) 1048576
theorem Pw{a b:D}:aw a b=true↔0<=b.int/\a.rows.length<=1048576:=by unfold aw;simp only[a9,leI,g5];omega
theorem alx(x:Int)(m:Nat)(hm:m<=1073741823):0<=Ic .and .i64 x m/\Ic .and .i64 x m<=m:=by
 have h1:(BitVec.ofInt 64 x &&& BitVec.ofInt 64 (m:Int)).toNat<=m:=by
  rw[BitVec.toNat_and];have y:(BitVec.ofInt 64 (m:Int)).toNat=m:=by rw[BitVec.toNat_ofInt];omega
  rw[y];exact Nat.and_le_right
 have J:Ic .and .i64 x m=w64 ((BitVec.ofInt 64 x &&& BitVec.ofInt 64 (m:Int)).toNat:Int):=rfl;rw[J];generalize (BitVec.ofInt 64 x &&& BitVec.ofInt 64 (m:Int)).toNat=r at h1;rw[bD (by omega) (by omega)];omega
theorem akU(x:Int):0<=Ic .and .i64 x 255/\Ic .and .i64 x 255<=255:=alx x 255 (by omega)
theorem aci{x n:Int}(J:0<=x)(y:0<n):0<=x.tmod n/\x.tmod n<n:=⟨Int.tmod_nonneg _ J,Int.tmod_lt_of_pos _ y⟩
def JN(K:Out->Out)(o:Out):Out:=nd o.isSome (K o)
theorem gjs{P:Nat->b8->Prop}{K:Out->Out}{o:Out}(h:GG P (JN K o)):GG P (nd o.isSome (K o)):=h
theorem lF{P:Nat->b8->Prop}{K:Out->Out}{c:Bool}{t:Out}(hc:c=true)(h:GG P (JN K t)):GG P (JN K (nd c t)):=by rw[hc,aU];exact h
theorem acA{P:Nat->b8->Prop}{K:Out->Out}{n:Nat}{c:Bool}{t:Out}(hc:c=true)(h:GG P (JN K t)):GG P (JN K (ndN n c t)):=by rw[hc,lB];exact h
theorem afz{P:Nat->b8->Prop}{K:Out->Out}{c:Bool}{t u:Out}(h1:c=true->GG P (JN K t))(y:c=false->GG P (JN K u)):GG P (JN K (bif c then t else u)):=by
 cases c with
 | true=>exact h1 rfl
 | false=>exact y rfl
theorem rv{P:Nat->b8->Prop}{K:Out->Out}{l:b8}(h:GG P (K (nx l))):GG P (JN K (nx l)):=h
def Hx(z:D):Bool:=leI (z.rows.length:Int) 1000
theorem afv:Hx (.l [])=true:=bi (by show (0:Int)<=1000;omega)
theorem alO(a:b8):Hx (.l [a])=true:=bi (by show (1:Int)<=1000;omega)
theorem alf(a b:b8):Hx (.l [a,b])=true:=bi (by show (2:Int)<=1000;omega)
theorem ajl{P:Program}{f:FuncId}{args args':List T}{res:T}(hw:res.sh.isW=false)(hl:args'.length=args.length)
  (ha:∀(j:Nat) J,args'[j]?=some J->∃t,args[j]?=some t/\J.sh=t.sh/\(J.p=t.p\/∃k,t.sh=.one (.c (.d k))/\J.p = [gd t.p 0])) (h:aJ P f args' res):aJ P f args res:=by
 refine aJ.of hw ⟨(h.n hw).1,fun w prot vs Y hB=>(h.n hw).2 w prot vs ⟨Y.1.trans hl.symm,fun j J hj=>?_⟩ hB⟩;obtain⟨t,h1,O,y⟩:=ha j J hj;obtain⟨u,Z,V⟩:=Y.2 j t h1;refine⟨u,Z,?_⟩;obtain⟨sh,p⟩:=t;obtain⟨M,W⟩:=J;have O:M=sh:=O;subst O;rcases y with y | ⟨k,y,U⟩
 ·have y:W=p:=y;rw[y];exact V
 ·have y:M=.one (.c (.d k)):=y;have U:W = [gd p 0]:=U;subst y U;exact V
theorem alG{P:Program}{f:FuncId}{M J:Sh}{k:S}{p q r:b8}{res:T}(hw:res.sh.isW=false)(h:aJ P f [⟨M,p⟩,⟨.one (.c (.d k)),[gd q 0]⟩,⟨J,r⟩] res):aJ P f [⟨M,p⟩,⟨.one (.c (.d k)),q⟩,⟨J,r⟩] res:=
 ajl (args':= [⟨M,p⟩,⟨.one (.c (.d k)),[gd q 0]⟩,⟨J,r⟩]) hw rfl (fun j O y=>by
  match j,y with
  | 0,y=>injection y with y;subst y;exact⟨_,rfl,rfl,.inl rfl⟩
  | 1,y=>injection y with y;subst y;exact⟨_,rfl,rfl,.inr ⟨k,rfl,rfl⟩⟩
  | 2,y=>injection y with y;subst y;exact⟨_,rfl,rfl,.inl rfl⟩) h
abbrev xp:=find []
theorem PR:av f8 xp:=al (fN)
abbrev xi:=[0,1,2,3,4,5,35]
abbrev d9:List Ce:=[.d si,.d (.sl 41),.d (.sl 41),.d (.sl 108),.d (.sl 93),.own (0,5) false 75,.d (.sl 3),.d (.sl 3),.d si]
def lI(N:Nat)(p:b8):b8->Out:=bb f8 xp N xi Tryz.f61 (.one (.agg d9)) [⟨ag aR,p⟩] 0
theorem EZ(N:Nat)(p:b8)(x0 x1 x2 x3 x4 x5 x6 x7 x8 x9 b6 W y b2 c1 Y c0 c2 J V a1 a8 a7 O c3 a6 a2 b5 a4 b3 a3 Z b0 a5 a0 x35 M b1 b4 U:D):(lI N p) [x0,x1,x2,x3,x4,x5,x6,x7,x8,x9,b6,W,y,b2,c1,Y,c0,c2,J,V,a1,a8,a7,O,c3,a6,a2,b5,a4,b3,a3,Z,b0,a5,a0,x35,M,b1,b4,U] =
 bif ltI y.int (J.rows.length:Int) then nd (ah y.int J.rows.length) (nd (bl ([]++(gd (J.rows.getD y.int.toNat []) 1).rows)&&true) (nd (bl (M.rows ++ [[gd (J.rows.getD y.int.toNat []) 0,.l ([]++(gd (J.rows.getD y.int.toNat []) 1).rows)]])&&true) (nx [x0,x1,x2,x3,x4,x5,x6,x7,x8,x9,b6,W,.i (w64 (y.int+1)),b2,c1,Y,c0,c2,J,V,a1,a8,a7,O,c3,a6,a2,b5,a4,b3,a3,Z,b0,a5,a0,x35,.l (M.rows ++ [[gd (J.rows.getD y.int.toNat []) 0,.l ([]++(gd (J.rows.getD y.int.toNat []) 1).rows)]]),b1,b4,U])))
 else ex 0 [x0,x1,x2,x3,x4,x5,x6,x7,x8,x9,b6,W,y,b2,c1,Y,c0,c2,J,V,a1,a8,a7,O,c3,a6,a2,b5,a4,b3,a3,Z,b0,a5,a0,x35,M,b1,b4,U]:=by kernel_rfl
theorem Qn(N:Nat)(p:b8):bf f8 xp N xi Tryz.f61 (.one (.agg d9)) [⟨ag aR,p⟩]=some (bo,
 nd (bl ([]++(gd p 1).rows)&&true) (nd (bl ([]++(gd p 2).rows)&&true) (nd (bl ([]++(gd p 3).rows)&&true) (nd (bl ([]++(gd p 4).rows)&&true) ((let y:=aX (lI N p) N [gd p 0,gd p 1,gd p 2,gd p 3,gd p 4,gd p 5,gd p 6,gd p 7,gd p 8,.i 0,.i 0,.i 0,.i 0,gd p 0,gd p 1,gd p 2,gd p 3,gd p 4,gd p 5,gd p 6,gd p 7,gd p 8,.i 0,.l [],.l [],.l [],.l [],.l [],.l [],.l [],.i 0,gd p 0,.l ([]++(gd p 1).rows),.l ([]++(gd p 2).rows),.l ([]++(gd p 3).rows),.l ([]++(gd p 4).rows),.l [],.l [],.l [],gd p 8]
  nd y.isSome (nd (y.code==2) (nd (bl ([]++(gd y.pay 19).rows)&&true) (nd (bl ([]++(gd y.pay 20).rows)&&true) (some (1,[gd y.pay 31,gd y.pay 32,gd y.pay 33,gd y.pay 34,gd y.pay 35,gd y.pay 36,.l ([]++(gd y.pay 19).rows),.l ([]++(gd y.pay 20).rows),gd y.pay 39]))))))))))):=by kernel_rfl
def gw:Ent:=(61,e1 (ag aR) fun p=>(⟨.one (.agg d9),ddS p⟩,dY p))
theorem fM:ay f8 gw:=cK fun p h=>au (N:=(gd p 5).rows.length+1) (ks:=xi) PR Tryz.func61 fun hw=>by
 rw[Qn];have h:dY p=true:=h;unfold dY at h;simp only[a9] at h;obtain⟨h1,O,V,h4,h5,W,h7,J⟩:=h;have hw:∀k,k<(gd p 5).rows.length->leI ((gd ((gd p 5).rows.getD k []) 1).rows.length:Int) 1000000=true:=fun k hk=>i9.1 J k (m7.2 hk)
 simp only[leI,g5] at h1 O V h4 h5 W h7 hw;have q1:bl (gd p 1).rows=true:=ci (by omega);have q2:bl (gd p 2).rows=true:=ci (by omega);have q3:bl (gd p 3).rows=true:=ci (by omega);have y:bl (gd p 4).rows=true:=ci (by omega);have Y:bl (gd p 6).rows=true:=ci (by omega);have M:bl (gd p 7).rows=true:=ci (by omega);simp only[q1,q2,q3,y,F0,u5,aU];have e:=cJ (L:=lI ((gd p 5).rows.length+1) p) (fun k => [gd p 0,gd p 1,gd p 2,gd p 3,gd p 4,gd p 5,gd p 6,gd p 7,gd p 8,.i 0,.i 0,.i 0,.i (k:Int),gd p 0,gd p 1,gd p 2,gd p 3,gd p 4,gd p 5,gd p 6,gd p 7,gd p 8,.i 0,.l [],.l [],.l [],.l [],.l [],.l [],.l [],.i 0,gd p 0,.l ((gd p 1).rows),.l ((gd p 2).rows),.l ((gd p 3).rows),.l ((gd p 4).rows),.l (kpL (fun _=>true) (fun k => [gd ((gd p 5).rows.getD k []) 0,.l (gd ((gd p 5).rows.getD k []) 1).rows]) k),.l [],.l [],gd p 8]) (gd p 5).rows.length 0 (fun k hk=>?_) ?_ (N:=(gd p 5).rows.length+1) (by omega)
 ·simp only[j9,show kpL (fun _=>true) (fun k => [gd ((gd p 5).rows.getD k []) 0,.l (gd ((gd p 5).rows.getD k []) 1).rows]) 0 = [] from rfl] at e;rw[e];show some (bo,nd (bl ([]++(gd p 6).rows)&&true) (nd (bl ([]++(gd p 7).rows)&&true) (some (1,[gd p 0,.l (gd p 1).rows,.l (gd p 2).rows,.l (gd p 3).rows,.l (gd p 4).rows,.l (kpL (fun _=>true) (fun k => [gd ((gd p 5).rows.getD k []) 0,.l (gd ((gd p 5).rows.getD k []) 1).rows]) (gd p 5).rows.length),.l ([]++(gd p 6).rows),.l ([]++(gd p 7).rows),gd p 8]))))=_;simp only[F0,Y,M,u5,aU];rfl
 ·show lI _ p [_,_,_,_,_,_,_,_,_,_,_,_,.i (k:Int),_,_,_,_,_,_,_,_,_,_,_,_,_,_,_,_,_,_,_,_,_,_,_,_,_,_,_]=_;rw[EZ];have a0:=hw k hk;have U:=jy (fun _=>true) (fun k => [gd ((gd p 5).rows.getD k []) 0,.l (gd ((gd p 5).rows.getD k []) 1).rows]) k;have Z:bl (gd ((gd p 5).rows.getD k []) 1).rows=true:=ci (by omega);have l2:bl (kpL (fun _=>true) (fun k => [gd ((gd p 5).rows.getD k []) 0,.l (gd ((gd p 5).rows.getD k []) 1).rows]) k ++ [[gd ((gd p 5).rows.getD k []) 0,D.l (gd ((gd p 5).rows.getD k []) 1).rows]])=true:=ci (by rw[i6];show _+1<=_;omega);simp only[aA,bd,di hk,bu hk,g8,aG hk (show (gd p 5).rows.length<=9223372036854775807 by omega),F0,Z,l2,u5,aU];rfl
 ·show lI _ p [_,_,_,_,_,_,_,_,_,_,_,_,.i ((gd p 5).rows.length:Int),_,_,_,_,_,_,_,_,_,_,_,_,_,_,_,_,_,_,_,_,_,_,_,_,_,_,_]=_;rw[EZ];simp only[aA,ca]
abbrev xn:=find [gw]
abbrev xP:=[0,1,2,4,6]
theorem HD(N:Nat)(p q:b8):bf f8 xn N xP Tryz.f60 (.one (.agg d9)) [⟨ag aR,p⟩,⟨ri,q⟩]=some (bo,
 bif (gd q 0).int==1 then some (1,[.i 0,.l [],.l [],.l [],.l [],.l [],.l [],.l [],.i 0])
 else nd (dY (sub p 0 9)) (some (1,dpS p))):=by kernel_rfl
def jj:Ent:=(60,e2 (ag aR) ri fun p q=>(⟨.one (.agg d9),sub (du p (gd q 0).int) 0 9⟩,dY p||(gd q 0).int==1))
theorem jO:ay f8 jj:=bm fun p q h=>au (N:=0) (ks:=xP) (al (fC ⟨fM,fN⟩)) Tryz.func60 fun hw=>by
 rw[HD];have h:(dY p||(gd q 0).int==1)=true:=h;cases hc:(gd q 0).int==1 with
 | true =>show some (bo,some (1,_))=some (bo,some (1,sub (du p (gd q 0).int) 0 9));unfold du;rw[hc];rfl
 | false =>rw[hc,N5] at h;have h:dY (sub p 0 9)=true:=h;rw[h];show some (bo,some (1,_))=some (bo,some (1,sub (du p (gd q 0).int) 0 9));unfold du;rw[hc];rfl
abbrev vf:=find [CR,up]
abbrev vz:=[0,1,2,4,5,9]
def ko(N:Nat)(p q:b8):b8->Out:=bb f8 vf N vz Tryz.f67 (.one (.agg [.d si,.d (.sl 41),.d (.sl 41),.d (.sl 108),.d (.sl 93),.d .opq,.d (.sl 3),.d (.sl 3),.d si])) [⟨.one (.agg [.d si,.d (.sl 41),.d (.sl 41),.d (.sl 108),.d (.sl 93),.d (.opq),.d (.sl 3),.d (.sl 3),.d si]),p⟩,⟨sd (.sl 3),q⟩] 0
theorem AJ(N:Nat)(p q:b8)(x0 x1 x2 x3 x4 x5 x6 x7 x8 J b0 V y a6 b2 W b1 O a5 M Y a4 a3 U b3 a2 Z a8 a1 a7 a0:D):(ko N p q) [x0,x1,x2,x3,x4,x5,x6,x7,x8,J,b0,V,y,a6,b2,W,b1,O,a5,M,Y,a4,a3,U,b3,a2,Z,a8,a1,a7,a0] =
 bif ltI y.int (J.rows.length:Int) then nd (ah y.int J.rows.length) (nd (leI (O.rows.length:Int) 1000000000) (nd (ah y.int J.rows.length) (nd (leI (M.rows.length:Int) 1000000000) (nx [x0,x1,x2,x3,x4,x5,x6,x7,x8,J,b0,V,.i (w64 (y.int+1)),a6,b2,W,b1,po O (gd (J.rows.getD y.int.toNat []) 0).int false,a5,bQ M (gd (J.rows.getD y.int.toNat []) 0),Y,a4,a3,U,b3,a2,Z,a8,a1,a7,a0]))))
 else ex 0 [x0,x1,x2,x3,x4,x5,x6,x7,x8,J,b0,V,y,a6,b2,W,b1,O,a5,M,Y,a4,a3,U,b3,a2,Z,a8,a1,a7,a0]:=by kernel_rfl
theorem Nq(N:Nat)(p q:b8):bf f8 vf N vz Tryz.f67 (.one (.agg [.d si,.d (.sl 41),.d (.sl 41),.d (.sl 108),.d (.sl 93),.d .opq,.d (.sl 3),.d (.sl 3),.d si])) [⟨.one (.agg [.d si,.d (.sl 41),.d (.sl 41),.d (.sl 108),.d (.sl 93),.d (.opq),.d (.sl 3),.d (.sl 3),.d si]),p⟩,⟨sd (.sl 3),q⟩]=some (bo,
 (let y:=aX (ko N p q) N [gd p 0,gd p 1,gd p 2,gd p 3,gd p 4,gd p 5,gd p 6,gd p 7,gd p 8,gd q 0,.i 0,.i 0,.i 0,gd p 0,gd p 1,gd p 2,gd p 3,gd p 4,gd p 5,gd p 6,gd p 7,gd p 8,.i 0,.l [],.l [],.l [],.l [],.l [],.l [],.l [],.i 0]
  nd y.isSome (nd (y.code==2) (some (1,sub y.pay 13 9))))):=by kernel_rfl
def Ub:Ent:=(67,e2 (.one (.agg [.d si,.d (.sl 41),.d (.sl 41),.d (.sl 108),.d (.sl 93),.d (.opq),.d (.sl 3),.d (.sl 3),.d si])) (sd (.sl 3)) fun p q=>(⟨.one (.agg [.d si,.d (.sl 41),.d (.sl 41),.d (.sl 108),.d (.sl 93),.d .opq,.d (.sl 3),.d (.sl 3),.d si]),sub (fA p (gd q 0)) 0 9⟩,leI ((gd p 4).rows.length:Int) 100000000&&(leI ((gd p 6).rows.length:Int) 100000000&&leI ((gd q 0).rows.length:Int) 100000000)))
theorem Mh:ay f8 Ub:=bm fun p q h=>au (N:=(gd q 0).rows.length+1) (ks:=vz) (al (fC ⟨DK,fC ⟨sA,fN⟩⟩)) Tryz.func67 fun hw=>by
 rw[Nq];have h:(leI ((gd p 4).rows.length:Int) 100000000&&(leI ((gd p 6).rows.length:Int) 100000000&&leI ((gd q 0).rows.length:Int) 100000000))=true:=h;simp only[a9,leI,g5] at h;obtain⟨h1,M,O⟩:=h;have e:=cJ (L:=ko ((gd q 0).rows.length+1) p q) (fun k => [gd p 0,gd p 1,gd p 2,gd p 3,gd p 4,gd p 5,gd p 6,gd p 7,gd p 8,gd q 0,.i 0,.i 0,.i (k:Int),gd p 0,gd p 1,gd p 2,gd p 3,(gh (gd p 4) (gd p 6) (gd q 0) k).1,gd p 5,(gh (gd p 4) (gd p 6) (gd q 0) k).2,gd p 7,gd p 8,.i 0,.l [],.l [],.l [],.l [],.l [],.l [],.l [],.i 0]) (gd q 0).rows.length 0 (fun k hk=>?_) ?_ (N:=(gd q 0).rows.length+1) (by omega)
 ·simp only[j9] at e;rw[show (gh (gd p 4) (gd p 6) (gd q 0) 0).1=gd p 4 from rfl,show (gh (gd p 4) (gd p 6) (gd q 0) 0).2=gd p 6 from rfl] at e;rw[e];rfl
 ·show ko _ p q [_,_,_,_,_,_,_,_,_,_,_,_,.i (k:Int),_,_,_,_,_,_,_,_,_,_,_,_,_,_,_,_,_,_]=_;rw[AJ];obtain⟨U,V⟩:=vR (gd p 4) (gd p 6) (gd q 0) k;have J:leI ((gh (gd p 4) (gd p 6) (gd q 0) k).1.rows.length:Int) 1000000000=true:=bi (by omega);have y:leI ((gh (gd p 4) (gd p 6) (gd q 0) k).2.rows.length:Int) 1000000000=true:=bi (by omega);simp only[aA,di hk,bu hk,g8,aG hk (show (gd q 0).rows.length<=9223372036854775807 by omega),J,y,aU];rfl
 ·show ko _ p q [_,_,_,_,_,_,_,_,_,_,_,_,.i ((gd q 0).rows.length:Int),_,_,_,_,_,_,_,_,_,_,_,_,_,_,_,_,_,_]=_;rw[AJ];simp only[aA,ca]
abbrev Ak:List Ce:= [.d si,.d (.sl 41),.d (.sl 41),.d (.sl 108),.d (.sl 93),.any,.d (.sl 3),.d (.sl 3),.d si]
def pV:Ent:=(67,e2 (ag aR) (sd (.sl 3)) fun p q=>(⟨.tup [.agg [.kb false,.any,.any,.any,.d si,.d (.sl 41),.d (.sl 41),.d (.sl 108),.d (.sl 93),.any,.d (.sl 3),.d (.sl 3),.d si]],sub (fA p (gd q 0)) 0 9⟩,leI ((gd p 4).rows.length:Int) 100000000&&(leI ((gd p 6).rows.length:Int) 100000000&&leI ((gd q 0).rows.length:Int) 100000000)))
theorem qB:ay f8 pV:=bm fun p q h=>by
 refine aJ.ofT (cs:=Ak) (az:=aR) (p:=p) (q:=sub (fA p (gd q 0)) 0 9) (rest:= [⟨sd (.sl 3),q⟩]) rfl rfl fun y=>?_
 have M:gd (vi Ak 0 p y) 4=gd p 4:=by simp only[Ak,vi,aq,ap,fq]
 have J:gd (vi Ak 0 p y) 6=gd p 6:=by simp only[Ak,vi,aq,ap,fq]
 have H:=Mh [⟨.one (.agg ((LI Ak aR).map .d)),vi Ak 0 p y⟩,⟨sd (.sl 3),q⟩] ⟨.one (.agg (Qs Ak)),sub (fA (vi Ak 0 p y) (gd q 0)) 0 9⟩ (by
  have O:(leI ((gd (vi Ak 0 p y) 4).rows.length:Int) 100000000&&(leI ((gd (vi Ak 0 p y) 6).rows.length:Int) 100000000&&leI ((gd q 0).rows.length:Int) 100000000))=true:=by rw[M,J];exact h
  exact congrArg (fun b=>some ((⟨.one (.agg (Qs Ak)),sub (fA (vi Ak 0 p y) (gd q 0)) 0 9⟩:T),b)) O)
 have e:vi Ak 0 (sub (fA p (gd q 0)) 0 9) y=sub (fA (vi Ak 0 p y) (gd q 0)) 0 9:=by unfold fA;rw[M,J];simp only[Ak,vi,aq,ap,fq,sub]
 rw[e];exact H
abbrev SA:=find []
theorem Uf:av f8 SA:=al (fN)
abbrev SB:=[0,2,3,34]
def GI(N:Nat)(p:b8):Out:=
 nd (leI 0 33) (nd (leI 0 45) (bif ltI (gd p 1).int ((gd p 0).rows.length:Int) then nd (ah (gd p 1).int (gd p 0).rows.length) (some (1,[.i 0,gd p 0,.i (w64 ((gd p 1).int+1)),.i (w64 ((w64 ((gd p 2).int*6364136223846793005))+1442695040888963407)),.i (Ic .and .i64 (w64 ((Ic .and .i64 (Ic .xor .i64 ((w64 ((w64 ((gd p 2).int*6364136223846793005))+1442695040888963407)).fdiv (2 ^ (min 33 64))) ((w64 ((w64 ((gd p 2).int*6364136223846793005))+1442695040888963407)).fdiv (2 ^ (min 45 64)))) 255)+(w64 (gd ((gd p 0).rows.getD (gd p 1).int.toNat []) 0).int))) 255)]))
 else some (1,[.i 0,gd p 0,gd p 1,.i (w64 ((w64 ((gd p 2).int*6364136223846793005))+1442695040888963407)),.i (Ic .and .i64 (Ic .xor .i64 ((w64 ((w64 ((gd p 2).int*6364136223846793005))+1442695040888963407)).fdiv (2 ^ (min 33 64))) ((w64 ((w64 ((gd p 2).int*6364136223846793005))+1442695040888963407)).fdiv (2 ^ (min 45 64)))) 255)])))
abbrev f4:List Ce:=[.d (.sl 5),.d si,.d si]
theorem Wl(N:Nat)(p:b8):jT f8 SA N SB Tryz.f243 (.tup [.agg [.any],.agg f4,.c (.d si)]) [⟨.tup [.agg f4],p⟩]=some (bo,GI N p):=by kernel_rfl
@[irreducible] def aQ(p:b8):b8:=sub (GI (0) p).pay 0 5
theorem IG(p:b8)(h:(aw (gd p 0) (gd p 1))=true):GG (fun c l=>c=1/\l=sub l 0 5/\(aw (gd l 1) (gd l 2)=true/\0<=(gd l 4).int/\(gd l 4).int<=255)) (GI (0) p):=by
 obtain⟨h1,y⟩:=Pw.1 h;refine gnd rfl (gnd rfl (bt (fun hc=>gnd ?_ (bc ⟨rfl,ar _,Pw.2 ⟨?_,y⟩,akU _⟩)) (fun _=>bc ⟨rfl,ar _,h,akU _⟩)))
 ·have hc:(gd p 1).int<((gd p 0).rows.length:Int):=i7 hc;simp only[ah,a9,g5];omega
 ·have hc:(gd p 1).int<((gd p 0).rows.length:Int):=i7 hc;show 0<=w64 ((gd p 1).int+1);rw[bD (by omega) (by omega)];omega
theorem aaK{p:b8}(h:(aw (gd p 0) (gd p 1))=true):aw (gd (aQ p) 1) (gd (aQ p) 2)=true/\0<=(gd (aQ p) 4).int/\(gd (aQ p) 4).int<=255:=by unfold aQ;exact (cH (IG p h)).2
def Tc:Ent:=(243,e1 (.tup [.agg f4]) fun p=>(⟨.tup [.agg [.any],.agg f4,.c (.d si)],aQ p⟩,aw (gd p 0) (gd p 1)))
theorem Ye:ay f8 Tc:=cK fun p h=>cN (N:=0) (ks:=SB) (key:=bo) Uf (cB Tryz.func243) Tryz.func243 fun hw y=>by rw[Wl];exact congrArg (fun x=>some (bo,x)) ((cH (IG p h)).1.trans (by unfold aQ;exact rfl))
abbrev OF:=find []
theorem XW:av f8 OF:=al (fN)
abbrev MK:=[0,2,3,4,15]
def RC(N:Nat)(p:b8):b8->Out:=ajP f8 OF N MK Tryz.f134 (.tup [.agg [.any,.any,.any,.any,.d (.sl 5),.d si,.d si]]) [⟨sd (.sl 5),p⟩] 0
theorem adp(N:Nat)(p:b8)(y:b8):(RC N p) (sub y 0 4) =
 bif ltI (gd y 3).int ((gd y 0).rows.length:Int) then bif ltI (gd y 3).int 4000 then nd (ah (gd y 3).int (gd y 0).rows.length) (nx [gd y 0,gd y 1,.i (Ic .and .i64 (w64 ((w64 ((w64 ((gd y 2).int*131))+(w64 (gd ((gd y 0).rows.getD (gd y 3).int.toNat []) 0).int)))+7)) 1073741823),.i (w64 ((gd y 3).int+1))])
 else ex 0 [gd y 0,gd y 1,gd y 2,gd y 3]
 else ex 0 [gd y 0,gd y 1,gd y 2,gd y 3]:=by kernel_rfl
def SP(N:Nat)(p:b8)(y:Out):Out:=
 some (1,[gd y.pay 0,.i 0,gd y.pay 2])
def yn(N:Nat)(p:b8):Out:=
 (let y:=aX (RC N p) N [gd p 0,.i 0,.i (w64 (97097+((gd p 0).rows.length:Int))),.i 0]
  nd y.isSome (nd (y.code==2) (SP N p y)))
theorem YX(N:Nat)(p:b8):agp f8 OF N MK Tryz.f134 (.tup [.agg [.any,.any,.any,.any,.d (.sl 5),.d si,.d si]]) [⟨sd (.sl 5),p⟩]=some (bo,yn N p):=by kernel_rfl
@[irreducible] def dV(p:D):b8:=sub (yn (4002) [p]).pay 0 3
theorem Nl(p:b8)(h:(leI ((gd p 0).rows.length:Int) 1048576)=true):GG (fun c l=>c=1/\l=sub l 0 3/\(aw (gd l 0) (gd l 1)=true)) (yn (4002) p):=by
 have U:((gd p 0).rows.length:Int)<=1048576:=i7 h;refine git (K:=SP 4002 p) (fun l=>gd l 0=gd p 0) (ir (I:=fun k s=>s=sub s 0 4/\gd s 0=gd p 0/\(gd s 3).int=(k:Int)) 4000 (fun k s O=>?_) 4002 0 _ ⟨rfl,rfl,rfl⟩ (by omega) (by omega)) fun l hl=>bc ⟨rfl,ar _,Pw.2 ⟨J4 _,?_⟩⟩
 ·obtain⟨e,J,e3⟩:=O;refine grd e (geq (adp _ _ s) (bt (fun M=>bt (fun y=>gnd ?_ (bc (.inl ⟨rfl,?_,ar _,J,?_⟩))) fun _=>bc (.inr ⟨by decide,rfl,J⟩)) fun _=>bc (.inr ⟨by decide,rfl,J⟩)))
  ·have M:(gd s 3).int<((gd s 0).rows.length:Int):=i7 M;simp only[ah,a9,g5];omega
  ·have y:(gd s 3).int<4000:=i7 y;omega
  ·have y:(gd s 3).int<4000:=i7 y;show w64 ((gd s 3).int+1)=((k+1:Nat):Int);rw[bD (by omega) (by omega)];omega
 ·show (gd l 0).rows.length<=1048576;rw[hl];omega
theorem adt{p:D}(h:(leI (p.rows.length:Int) 1048576)=true):aw (gd (dV p) 0) (gd (dV p) 1)=true:=by unfold dV;exact (cH (Nl [p] h)).2
theorem aeY(N:Nat)(p:b8):yn N p=yn N [gd p 0]:=by kernel_rfl
def YT:Ent:=(134,e1 (sd (.sl 5)) fun p=>(⟨.tup [.agg [.any,.any,.any,.any,.d (.sl 5),.d si,.d si]],dV (gd p 0)⟩,leI ((gd p 0).rows.length:Int) 1048576))
theorem ZT:ay f8 YT:=cK fun p h=>YA (N:=4002) (ks:=MK) (key:=bo) XW (cB Tryz.func134) Tryz.func134 fun hw=>by rw[YX];exact congrArg (fun x=>some (bo,x)) (((aeY _ p).trans (cH (Nl [gd p 0] h)).1).trans (by unfold dV;exact rfl))
abbrev Ou:=find [Tc]
abbrev Mb:=[0,1,4,5,6,7,8,10,12]
def jt(p:b8):b8:=aQ (sub (aQ (sub (aQ (sub p 0 3)) 1 3)) 1 3)
def qX(N:Nat)(p q:b8):Out:=
 bif leI (gd q 0).int 0 then some (1,[.i 0,gd p 0,gd p 1,gd p 2,.i 0])
 else bif leI (gd q 0).int 256 then nd (aw (gd p 0) (gd p 1)) (nd ((gd q 0).int != 0) (some (1,[.i 0,gd (aQ (sub p 0 3)) 1,gd (aQ (sub p 0 3)) 2,gd (aQ (sub p 0 3)) 3,.i ((gd (aQ (sub p 0 3)) 4).int.tmod (gd q 0).int)])))
 else nd (aw (gd p 0) (gd p 1)) (nd (aw (gd (aQ (sub p 0 3)) 1) (gd (aQ (sub p 0 3)) 2)) (nd (aw (gd (aQ (sub (aQ (sub p 0 3)) 1 3)) 1) (gd (aQ (sub (aQ (sub p 0 3)) 1 3)) 2)) (nd (aw (gd (jt p) 1) (gd (jt p) 2)) (nd ((gd q 0).int != 0) (some (1,[.i 0,gd (aQ (sub (jt p) 1 3)) 1,gd (aQ (sub (jt p) 1 3)) 2,gd (aQ (sub (jt p) 1 3)) 3,.i ((w64 ((w64 ((w64 ((w64 ((gd (aQ (sub p 0 3)) 4).int*16777216))+(w64 ((gd (aQ (sub (aQ (sub p 0 3)) 1 3)) 4).int*65536))))+(w64 ((gd (jt p) 4).int*256))))+(gd (aQ (sub (jt p) 1 3)) 4).int)).tmod (gd q 0).int)]))))))
theorem TC(N:Nat)(p q:b8):jT f8 Ou N Mb Tryz.f174 (.tup [.agg [.any],.agg f4,.c (.d si)]) [⟨.tup [.agg f4],p⟩,⟨ri,q⟩]=some (bo,qX N p q):=by kernel_rfl
@[irreducible] def aa(p:b8)(q:D):b8:=sub (qX (0) p [q]).pay 0 5
theorem Dv(p q:b8)(h:(aw (gd p 0) (gd p 1))=true):GG (fun c l=>c=1/\l=sub l 0 5/\(aw (gd l 1) (gd l 2)=true/\0<=(gd l 4).int/\((gd l 4).int<(gd q 0).int\/(gd l 4).int=0))) (qX (0) p q):=by
 have M:∀X:b8,aw (gd X 0) (gd X 1)=true->aw (gd (aQ X) 1) (gd (aQ X) 2)=true/\0<=(gd (aQ X) 4).int/\(gd (aQ X) 4).int<=255:=fun X Y=>aaK Y
 obtain⟨U,a2,a3⟩:=M (sub p 0 3) h;obtain⟨V,b2,b3⟩:=M (sub (aQ (sub p 0 3)) 1 3) U;obtain⟨W,c2,c3⟩:=M (sub (aQ (sub (aQ (sub p 0 3)) 1 3)) 1 3) V;obtain⟨d1,d2,d3⟩:=M (sub (aQ (sub (aQ (sub (aQ (sub p 0 3)) 1 3)) 1 3)) 1 3) W;have J:leI (gd q 0).int 0=false->0<(gd q 0).int:=fun hc=>by have:¬(gd q 0).int<=0:=L5 hc;omega
 have O:leI (gd q 0).int 0=false->((gd q 0).int != 0)=true:=fun hc=>by have:=J hc;simp;omega
 refine bt (fun _=>bc ⟨rfl,ar _,h,J4 _,.inr rfl⟩) fun hc=>bt (fun _=>gnd h (gnd (O hc) (bc ⟨rfl,ar _,U,?_⟩))) fun _=>?_
 ·have:=aci a2 (J hc);exact⟨this.1,.inl this.2⟩
 ·refine gnd h (gnd U (gnd V (gnd W (gnd (O hc) (bc ⟨rfl,ar _,d1,?_⟩)))));have Z:0<=w64 ((w64 ((w64 ((w64 ((gd (aQ (sub p 0 3)) 4).int*16777216))+(w64 ((gd (aQ (sub (aQ (sub p 0 3)) 1 3)) 4).int*65536))))+(w64 ((gd (aQ (sub (aQ (sub (aQ (sub p 0 3)) 1 3)) 1 3)) 4).int*256))))+(gd (aQ (sub (aQ (sub (aQ (sub (aQ (sub p 0 3)) 1 3)) 1 3)) 1 3)) 4).int):=by generalize (gd (aQ (sub (aQ (sub (aQ (sub (aQ (sub p 0 3)) 1 3)) 1 3)) 1 3)) 4).int=w at *;generalize (gd (aQ (sub (aQ (sub (aQ (sub p 0 3)) 1 3)) 1 3)) 4).int=z at *;generalize (gd (aQ (sub (aQ (sub p 0 3)) 1 3)) 4).int=y at *;generalize (gd (aQ (sub p 0 3)) 4).int=x at *;rw[bD (x:=x*16777216) (by omega) (by omega),bD (x:=y*65536) (by omega) (by omega),bD (x:=z*256) (by omega) (by omega),bD (x:=x*16777216+y*65536) (by omega) (by omega),bD (x:=x*16777216+y*65536+z*256) (by omega) (by omega),bD (by omega) (by omega)];omega
  have:=aci Z (J hc);exact⟨this.1,.inl this.2⟩
theorem rN{p:b8}{q:D}(h:(aw (gd p 0) (gd p 1))=true):aw (gd (aa p q) 1) (gd (aa p q) 2)=true/\0<=(gd (aa p q) 4).int/\((gd (aa p q) 4).int<q.int\/(gd (aa p q) 4).int=0):=by unfold aa;exact (cH (Dv p [q] h)).2
theorem Ws(N:Nat)(p q:b8):qX N p q=qX N p [gd q 0]:=by kernel_rfl
theorem bU{X:b8}{a:Nat}{q:D}(h:aw (gd X a) (gd X (a+1))=true):aw (gd (aa (sub X a 3) q) 1) (gd (aa (sub X a 3) q) 2)=true:=rN (p:=sub X a 3) h |>.1
theorem ch{x y z:D}{q:D}(h:aw x y=true):aw (gd (aa [x,y,z] q) 1) (gd (aa [x,y,z] q) 2)=true:=rN (p:= [x,y,z]) h |>.1
theorem qO{X:b8}{a:Nat}{q:D}(h:aw (gd X a) (gd X (a+1))=true):0<=(gd (aa (sub X a 3) q) 4).int/\((gd (aa (sub X a 3) q) 4).int<q.int\/(gd (aa (sub X a 3) q) 4).int=0):=(rN (p:=sub X a 3) h).2
theorem If{x y z:D}{q:D}(h:aw x y=true):0<=(gd (aa [x,y,z] q) 4).int/\((gd (aa [x,y,z] q) 4).int<q.int\/(gd (aa [x,y,z] q) 4).int=0):=(rN (p:= [x,y,z]) h).2
def dI:Ent:=(174,e2 (.tup [.agg f4]) ri fun p q=>(⟨.tup [.agg [.any],.agg f4,.c (.d si)],aa p (gd q 0)⟩,aw (gd p 0) (gd p 1)))
theorem cZ:ay f8 dI:=bm fun p q h=>cN (N:=0) (ks:=Mb) (key:=bo) (al (fC ⟨Ye,fN⟩)) (cB Tryz.func174) Tryz.func174 fun hw y=>by rw[TC];exact congrArg (fun x=>some (bo,x)) (((Ws _ p q).trans (cH (Dv p [gd q 0] h)).1).trans (by unfold aa;exact rfl))
abbrev RZ:=find [dI]
abbrev SD:=[0,1,4]
def tn(N:Nat)(p q:b8):Out:=
 nd (aw (gd p 0) (gd p 1)) (some (1,[.i 0,gd (aa (sub p 0 3) (gd q 0)) 1,gd (aa (sub p 0 3) (gd q 0)) 2,gd (aa (sub p 0 3) (gd q 0)) 3,.b ((gd (aa (sub p 0 3) (gd q 0)) 4).int==0)]))
theorem WG(N:Nat)(p q:b8):jT f8 RZ N SD Tryz.f172 (.tup [.agg [.any],.agg f4,.c (.d .bool)]) [⟨.tup [.agg f4],p⟩,⟨ri,q⟩]=some (bo,tn N p q):=by kernel_rfl
@[irreducible] def af(p:b8)(q:D):b8:=sub (tn (0) p [q]).pay 0 5
theorem JO(p q:b8)(h:(aw (gd p 0) (gd p 1))=true):GG (fun c l=>c=1/\l=sub l 0 5/\(aw (gd l 1) (gd l 2)=true)) (tn (0) p q):=by have y:=bU (X:=p) (a:=0) (q:=gd q 0) h;refine gnd h (bc ⟨rfl,ar _,y⟩)
theorem LO{p:b8}{q:D}(h:(aw (gd p 0) (gd p 1))=true):aw (gd (af p q) 1) (gd (af p q) 2)=true:=by unfold af;exact (cH (JO p [q] h)).2
theorem aaR(N:Nat)(p q:b8):tn N p q=tn N p [gd q 0]:=by kernel_rfl
theorem cx{X:b8}{a:Nat}{q:D}(h:aw (gd X a) (gd X (a+1))=true):aw (gd (af (sub X a 3) q) 1) (gd (af (sub X a 3) q) 2)=true:=LO (p:=sub X a 3) h
theorem dg{x y z:D}{q:D}(h:aw x y=true):aw (gd (af [x,y,z] q) 1) (gd (af [x,y,z] q) 2)=true:=LO (p:= [x,y,z]) h
def iK:Ent:=(172,e2 (.tup [.agg f4]) ri fun p q=>(⟨.tup [.agg [.any],.agg f4,.c (.d .bool)],af p (gd q 0)⟩,aw (gd p 0) (gd p 1)))
theorem gz:ay f8 iK:=bm fun p q h=>cN (N:=0) (ks:=SD) (key:=bo) (al (fC ⟨cZ,fN⟩)) (cB Tryz.func172) Tryz.func172 fun hw y=>by rw[WG];exact congrArg (fun x=>some (bo,x)) (((aaR _ p q).trans (cH (JO p [gd q 0] h)).1).trans (by unfold af;exact rfl))
abbrev EW:=find [dI]
abbrev DH:=[0,1,4]
def lQ(N:Nat)(p q:b8):Out:=
 nd (aw (gd p 0) (gd p 1)) (nd (ah (gd (aa (sub p 0 3) (.i ((gd q 0).rows.length:Int))) 4).int (gd q 0).rows.length) (some (1,[.i 0,gd (aa (sub p 0 3) (.i ((gd q 0).rows.length:Int))) 1,gd (aa (sub p 0 3) (.i ((gd q 0).rows.length:Int))) 2,gd (aa (sub p 0 3) (.i ((gd q 0).rows.length:Int))) 3,gd ((gd q 0).rows.getD (gd (aa (sub p 0 3) (.i ((gd q 0).rows.length:Int))) 4).int.toNat []) 0])))
theorem NH(N:Nat)(p q:b8):jT f8 EW N DH Tryz.f239 (.tup [.agg [.any],.agg f4,.c (.d si)]) [⟨.tup [.agg f4],p⟩,⟨sd (.sl 3),q⟩]=some (bo,lQ N p q):=by kernel_rfl
@[irreducible] def bZ(p:b8)(q:D):b8:=sub (lQ (0) p [q]).pay 0 5
theorem zv(p q:b8)(h:(aw (gd p 0) (gd p 1)&&xA (gd q 0))=true):GG (fun c l=>c=1/\l=sub l 0 5/\(aw (gd l 1) (gd l 2)=true)) (lQ (0) p q):=by rw[a9] at h;have y:=bU (X:=p) (a:=0) (q:=.i ((gd q 0).rows.length:Int)) h.1;have J:=qO (X:=p) (a:=0) (q:=.i ((gd q 0).rows.length:Int)) h.1;refine gnd h.1 (gnd ?_ (bc ⟨rfl,ar _,y⟩));have M:0<((gd q 0).rows.length:Int):=i7 h.2;have O:_<((gd q 0).rows.length:Int)\/_:=J.2;simp only[ah,a9,g5];omega
theorem AY{p:b8}{q:D}(h:(aw (gd p 0) (gd p 1)&&xA q)=true):aw (gd (bZ p q) 1) (gd (bZ p q) 2)=true:=by unfold bZ;exact (cH (zv p [q] h)).2
theorem Qy(N:Nat)(p q:b8):lQ N p q=lQ N p [gd q 0]:=by kernel_rfl
theorem eu{X:b8}{a:Nat}{q:D}(h:aw (gd X a) (gd X (a+1))=true)(y:xA q=true):aw (gd (bZ (sub X a 3) q) 1) (gd (bZ (sub X a 3) q) 2)=true:=AY (p:=sub X a 3) (dp h y)
theorem dN{x y z:D}{q:D}(h:aw x y=true)(J:xA q=true):aw (gd (bZ [x,y,z] q) 1) (gd (bZ [x,y,z] q) 2)=true:=AY (p:= [x,y,z]) (dp h J)
def ip:Ent:=(239,e2 (.tup [.agg f4]) (sd (.sl 3)) fun p q=>(⟨.tup [.agg [.any],.agg f4,.c (.d si)],bZ p (gd q 0)⟩,aw (gd p 0) (gd p 1)&&xA (gd q 0)))
theorem hD:ay f8 ip:=bm fun p q h=>cN (N:=0) (ks:=DH) (key:=bo) (al (fC ⟨cZ,fN⟩)) (cB Tryz.func239) Tryz.func239 fun hw y=>by rw[NH];exact congrArg (fun x=>some (bo,x)) (((Qy _ p q).trans (cH (zv p [gd q 0] h)).1).trans (by unfold bZ;exact rfl))
abbrev wQ:=find [dI,ip]
abbrev wC:=[0,2,3,4,15,16,24]
def pn(N:Nat)(p:b8):List b8:= [[.i 0],[.i (w64 ((gd (aa (sub p 0 3) (.i 30)) 4).int - (gd (aa (sub (aa (sub (aa (sub (aa (sub p 0 3) (.i 30)) 1 3) (.i 12)) 1 3) (.i 20)) 1 3) (.i 2)) 4).int))],[gd (aa (sub (aa (sub (aa (sub (aa (sub p 0 3) (.i 30)) 1 3) (.i 12)) 1 3) (.i 20)) 1 3) (.i 2)) 4],[gd (aa (sub p 0 3) (.i 30)) 4],[.i 0],[.i 0],[.i 0],[.i 0],[gd (aa (sub p 0 3) (.i 30)) 4],[.i 0],[gd (aa (sub (aa (sub (aa (sub p 0 3) (.i 30)) 1 3) (.i 12)) 1 3) (.i 20)) 4],[.b ((gd (aa (sub (aa (sub (aa (sub p 0 3) (.i 30)) 1 3) (.i 12)) 1 3) (.i 20)) 4).int==0)],[gd (aa (sub (aa (sub (aa (sub (aa (sub p 0 3) (.i 30)) 1 3) (.i 12)) 1 3) (.i 20)) 1 3) (.i 2)) 1,gd (aa (sub (aa (sub (aa (sub (aa (sub p 0 3) (.i 30)) 1 3) (.i 12)) 1 3) (.i 20)) 1 3) (.i 2)) 2,gd (aa (sub (aa (sub (aa (sub (aa (sub p 0 3) (.i 30)) 1 3) (.i 12)) 1 3) (.i 20)) 1 3) (.i 2)) 3],[.i 0,.i 0],[gd (aa (sub p 0 3) (.i 30)) 4,.i (w64 ((gd (aa (sub p 0 3) (.i 30)) 4).int - (gd (aa (sub (aa (sub (aa (sub (aa (sub p 0 3) (.i 30)) 1 3) (.i 12)) 1 3) (.i 20)) 1 3) (.i 2)) 4).int))]]
def bw(p:b8):b8:=aa (sub (aa (sub p 0 3) (.i 30)) 1 3) (.i 12)
def fS(p:b8):b8:=aa (sub (aa (sub (bw p) 1 3) (.i 20)) 1 3) (.i 2)
def fU(p:b8):b8:=bZ (sub (aa (sub (bw p) 1 3) (.i 20)) 1 3) (.l [[.i (-1)],[.i 0],[.i 990]])
def fR(p:b8):b8:=bZ (sub (fU p) 1 3) (.l [[.i 1000],[.i 1001]])
def ky(N:Nat)(p:b8):Out:=
 nd (aw (gd p 0) (gd p 1)) (nd (aw (gd (aa (sub p 0 3) (.i 30)) 1) (gd (aa (sub p 0 3) (.i 30)) 2)) (nd (aw (gd (bw p) 1) (gd (bw p) 2)) (bif (gd (aa (sub (bw p) 1 3) (.i 20)) 4).int==0 then nd ((aw (gd (aa (sub (bw p) 1 3) (.i 20)) 1) (gd (aa (sub (bw p) 1 3) (.i 20)) 2))&&true) (nd (((aw (gd (aa (sub (bw p) 1 3) (.i 20)) 1) (gd (aa (sub (bw p) 1 3) (.i 20)) 2))&&true)&&(em (pn N p) (pn N p))) (some (1,[.i 0,gd (fS p) 1,gd (fS p) 2,gd (fS p) 3,gd (aa (sub p 0 3) (.i 30)) 4,.i (w64 ((gd (aa (sub p 0 3) (.i 30)) 4).int - (gd (fS p) 4).int))])))
 else bif (gd (aa (sub (bw p) 1 3) (.i 20)) 4).int==1 then nd (aw (gd (aa (sub (bw p) 1 3) (.i 20)) 1) (gd (aa (sub (bw p) 1 3) (.i 20)) 2)&&xA (.l [[.i (-1)],[.i 0],[.i 990]])) (nd (aw (gd (fU p) 1) (gd (fU p) 2)&&xA (.l [[.i 1000],[.i 1001]])) (some (1,[.i 0,gd (fR p) 1,gd (fR p) 2,gd (fR p) 3,gd (fU p) 4,gd (fR p) 4])))
 else some (1,[.i 0,gd (aa (sub (bw p) 1 3) (.i 20)) 1,gd (aa (sub (bw p) 1 3) (.i 20)) 2,gd (aa (sub (bw p) 1 3) (.i 20)) 3,gd (aa (sub p 0 3) (.i 30)) 4,.i (w64 ((w64 ((gd (aa (sub p 0 3) (.i 30)) 4).int+1))+(gd (bw p) 4).int))]))))
theorem DL(N:Nat)(p:b8):jT f8 wQ N wC Tryz.f270 (.tup [.agg [.any],.agg f4,.agg [.d si,.d si]]) [⟨.tup [.agg f4],p⟩]=some (bo,ky N p):=by kernel_rfl
@[irreducible] def dw(p:b8):b8:=sub (ky (0) p).pay 0 6
theorem rJ(p:b8)(h:(aw (gd p 0) (gd p 1))=true):GG (fun c l=>c=1/\l=sub l 0 6/\(aw (gd l 1) (gd l 2)=true)) (ky (0) p):=by
 unfold ky;refine gnd ?_ (gnd ?_ (gnd ?_ (bt (fun y=>gnd ?_ (gnd ?_ (bc ⟨rfl,ar _,?_⟩))) (fun y=>bt (fun J=>gnd ?_ (gnd ?_ (bc ⟨rfl,ar _,?_⟩))) (fun J=>bc ⟨rfl,ar _,?_⟩)))))
 all_goals try replace y:=(i7 y:_<_)
 all_goals first
  | (simp (maxDischargeDepth:=30) only [bU,ch,cx,dg,eu,dN,bn,gj,aq,ap,Nat.reduceAdd,u5,bw,fS,fU,fR,h];done)
  | (simp only[aq,ap,bd,i6,n9,z8,aA,bw,fS,fU,fR];omega)
  | omega
  | exact dQ (by omega)
  | skip
theorem th{p:b8}(h:(aw (gd p 0) (gd p 1))=true):aw (gd (dw p) 1) (gd (dw p) 2)=true:=by unfold dw;exact (cH (rJ p h)).2
theorem adv{X:b8}{a:Nat}(h:aw (gd X a) (gd X (a+1))=true):aw (gd (dw (sub X a 3)) 1) (gd (dw (sub X a 3)) 2)=true:=th (p:=sub X a 3) h
theorem aaD{x y z:D}(h:aw x y=true):aw (gd (dw [x,y,z]) 1) (gd (dw [x,y,z]) 2)=true:=th (p:= [x,y,z]) h
def wn:Ent:=(270,e1 (.tup [.agg f4]) fun p=>(⟨.tup [.agg [.any],.agg f4,.agg [.d si,.d si]],dw p⟩,aw (gd p 0) (gd p 1)))
theorem FO:ay f8 wn:=cK fun p h=>cN (N:=0) (ks:=wC) (key:=bo) (al (fC ⟨cZ,fC ⟨hD,fN⟩⟩)) (cB Tryz.func270) Tryz.func270 fun hw y=>by rw[DL];exact congrArg (fun x=>some (bo,x)) ((cH (rJ p h)).1.trans (by unfold dw;exact rfl))
abbrev mP:=find [dI,iK,wn]
abbrev mW:=[0,1,4,5,6,7,8,9,15,21,40]
def ja(N:Nat)(p q:b8):b8->Out:=vC f8 mP N mW Tryz.f240 (.tup [.agg [.any],.agg f4,.c (.d (.sl 41))]) [⟨.tup [.agg f4],p⟩,⟨ri,q⟩] 0
def cw(M J y:D):b8:=aa (sub (aa [M,J,y] (.i 5)) 1 3) (.i 4)
theorem Eg(N:Nat)(p q:b8)(y:b8):(ja N p q) (sub y 0 11) =
 bif ltI (gd y 7).int (gd y 3).int then nd (aw (gd y 8) (gd y 9)) (nd (bl ((gd y 5).rows ++ [[gd y 6,.i (w64 ((w64 ((gd y 6).int+1))+(gd (aa [gd y 8,gd y 9,gd y 10] (.i 5)) 4).int))]])&&true) (nd (aw (gd (aa [gd y 8,gd y 9,gd y 10] (.i 5)) 1) (gd (aa [gd y 8,gd y 9,gd y 10] (.i 5)) 2)) (nx [gd y 0,gd y 1,gd y 2,gd y 3,gd y 4,.l ((gd y 5).rows ++ [[gd y 6,.i (w64 ((w64 ((gd y 6).int+1))+(gd (aa [gd y 8,gd y 9,gd y 10] (.i 5)) 4).int))]]),.i (w64 ((w64 ((w64 ((gd y 6).int+1))+(gd (aa [gd y 8,gd y 9,gd y 10] (.i 5)) 4).int))+(gd (cw (gd y 8) (gd y 9) (gd y 10)) 4).int)),.i (w64 ((gd y 7).int+1)),gd (cw (gd y 8) (gd y 9) (gd y 10)) 1,gd (cw (gd y 8) (gd y 9) (gd y 10)) 2,gd (cw (gd y 8) (gd y 9) (gd y 10)) 3])))
 else ex 0 [gd y 0,gd y 1,gd y 2,gd y 3,gd y 4,gd y 5,gd y 6,gd y 7,gd y 8,gd y 9,gd y 10]:=by kernel_rfl
def cq(y:Out):b8:=dw (sub (af (sub y.pay 8 3) (.i 20)) 1 3)
def ba(p q:b8):b8:=af (sub (aa (sub p 0 3) (.i (w64 ((gd q 0).int+1)))) 1 3) (.i 20)
def iW(N:Nat)(p q:b8)(y:Out):Out:=
 nd (aw (gd y.pay 8) (gd y.pay 9)) (bif (gd (af (sub y.pay 8 3) (.i 20)) 4).bool then nd (aw (gd (af (sub y.pay 8 3) (.i 20)) 1) (gd (af (sub y.pay 8 3) (.i 20)) 2)) (nd (bl ((gd y.pay 5).rows ++ [sub (cq y) 4 2])&&true) (some (1,[.i 0,gd (cq y) 1,gd (cq y) 2,gd (cq y) 3,.l ((gd y.pay 5).rows ++ [sub (cq y) 4 2])])))
  else some (1,[.i 0,gd (af (sub y.pay 8 3) (.i 20)) 1,gd (af (sub y.pay 8 3) (.i 20)) 2,gd (af (sub y.pay 8 3) (.i 20)) 3,gd y.pay 5]))
def fQ(N:Nat)(p q:b8):Out:=
 nd (aw (gd p 0) (gd p 1)) (nd (aw (gd (aa (sub p 0 3) (.i (w64 ((gd q 0).int+1)))) 1) (gd (aa (sub p 0 3) (.i (w64 ((gd q 0).int+1)))) 2)) (bif (gd (ba p q) 4).bool then nd (aw (gd (ba p q) 1) (gd (ba p q) 2)) ((let y:=aX (ja N p q) N [.i 0,gd q 0,.l [],.i 16,gd (ba p q) 4,.l [],gd (aa (sub (ba p q) 1 3) (.i 5)) 4,.i 0,gd (aa (sub (ba p q) 1 3) (.i 5)) 1,gd (aa (sub (ba p q) 1 3) (.i 5)) 2,gd (aa (sub (ba p q) 1 3) (.i 5)) 3]
  nd y.isSome (nd (y.code==2) (iW N p q y))))
 else nd (aw (gd (ba p q) 1) (gd (ba p q) 2)) ((let y:=aX (ja N p q) N [.i 0,gd q 0,.l [],gd (aa (sub p 0 3) (.i (w64 ((gd q 0).int+1)))) 4,gd (ba p q) 4,.l [],gd (aa (sub (ba p q) 1 3) (.i 5)) 4,.i 0,gd (aa (sub (ba p q) 1 3) (.i 5)) 1,gd (aa (sub (ba p q) 1 3) (.i 5)) 2,gd (aa (sub (ba p q) 1 3) (.i 5)) 3]
  nd y.isSome (nd (y.code==2) (iW N p q y))))))
theorem Cz(N:Nat)(p q:b8):jT f8 mP N mW Tryz.f240 (.tup [.agg [.any],.agg f4,.c (.d (.sl 41))]) [⟨.tup [.agg f4],p⟩,⟨ri,q⟩]=some (bo,fQ N p q):=by kernel_rfl
theorem BJ(p q:b8)(st:b8)(e:st=sub st 0 11)(hc:aw (gd st 8) (gd st 9)=true)(hi:(gd st 7).int=0)(M:(gd st 5).rows.length=0)(y:(gd st 3).int<=120) :
  GG (fun c l=>c=2/\aw (gd l 8) (gd l 9)=true/\(gd l 5).rows.length<=120) (aX (ja 122 p q) 122 st):=by
 refine ir (I:=fun k s=>s=sub s 0 11/\aw (gd s 8) (gd s 9)=true/\(gd s 7).int=(k:Int)/\(gd s 5).rows.length<=k/\(gd s 3).int<=120/\k<=120) 120 (fun k s O=>?_) 122 0 st ⟨e,hc,hi,D5 M,y,n5 _⟩ (by decide) (n5 _);obtain⟨e,hc,hi,M,y,hk⟩:=O;have hw:w64 ((gd s 7).int+1)=((k+1:Nat):Int):=by rw[bD (by omega) (by omega)];omega
 refine grd e (geq (Eg _ _ _ s) (bt (fun J=>gnd ?_ (gnd ?_ (gnd ?_ (bc (.inl ⟨rfl,?_,ar _,?_,hw,?_,y,?_⟩))))) (fun J=>bc (.inr ⟨by decide,rfl,?_,?_⟩))))
 all_goals try replace J:=(i7 J:_<_)
 all_goals first
  | (simp (maxDischargeDepth:=30) only [bU,ch,cx,dg,eu,dN,bn,gj,aq,ap,Nat.reduceAdd,u5,cw,cq,ba,hc];done)
  | (simp only[aq,ap,bd,i6,n9,z8,aA,cw,cq,ba];omega)
  | omega
  | exact dQ (by omega)
  | skip
@[irreducible] def bX(p:b8)(q:D):b8:=sub (fQ (122) p [q]).pay 0 5
theorem qD(p q:b8)(h:(aw (gd p 0) (gd p 1)&&(leI 0 (gd q 0).int&&leI (gd q 0).int 100))=true):GG (fun c l=>c=1/\l=sub l 0 5/\(aw (gd l 1) (gd l 2)=true/\(gd l 4).rows.length<=200)) (fQ (122) p q):=by
 simp only[a9] at h;obtain⟨h,J,M⟩:=h;have J:0<=(gd q 0).int:=i7 J;have M:(gd q 0).int<=100:=i7 M;have hm:(gd (aa (sub p 0 3) (.i (w64 ((gd q 0).int+1)))) 4).int<=120:=by have:=(qO (X:=p) (a:=0) (q:=.i (w64 ((gd q 0).int+1))) h).2;have e:(D.i (w64 ((gd q 0).int+1))).int=(gd q 0).int+1:=bD (by omega) (by omega);rw[e] at this;omega
 have hk:∀l,aw (gd l 8) (gd l 9)=true/\(gd l 5).rows.length<=120->GG (fun c l=>c=1/\l=sub l 0 5/\(aw (gd l 1) (gd l 2)=true/\(gd l 4).rows.length<=200)) (iW 122 p q (some (2,l))):=fun l hl=>by
  obtain⟨hc,O⟩:=hl;refine gnd ?_ (bt (fun y=>gnd ?_ (gnd ?_ (bc ⟨rfl,ar _,?_,?_⟩))) (fun y=>bc ⟨rfl,ar _,?_,?_⟩))
  all_goals try simp only[Out.pay,z6,cw,cq,ba]
  all_goals try replace y:=(i7 y:_<_)
  all_goals first
   | (simp (maxDischargeDepth:=30) only [bU,ch,cx,dg,adv,aaD,bn,gj,aq,ap,Nat.reduceAdd,u5,cw,cq,ba,hc];done)
   | (simp only[aq,ap,bd,i6,n9,z8,aA,cw,cq,ba];omega)
   | omega
   | exact dQ (by omega)
   | skip
 unfold fQ;refine gnd ?_ (gnd ?_ (bt (fun y=>gnd ?_ (?_)) (fun y=>gnd ?_ (?_))))
 all_goals try refine git (K:=iW 122 p q) _ (BJ p q _ (ar _) ?_ rfl rfl ?_) hk
 all_goals try exact hm
 all_goals try replace y:=(i7 y:_<_)
 all_goals first
  | (simp (maxDischargeDepth:=30) only [bU,ch,cx,dg,eu,dN,bn,gj,aq,ap,Nat.reduceAdd,u5,cw,cq,ba,h];done)
  | (simp only[aq,ap,bd,i6,n9,z8,aA,cw,cq,ba];omega)
  | omega
  | exact dQ (by omega)
  | skip
theorem mw{p:b8}{q:D}(h:(aw (gd p 0) (gd p 1)&&(leI 0 q.int&&leI q.int 100))=true):aw (gd (bX p q) 1) (gd (bX p q) 2)=true/\(gd (bX p q) 4).rows.length<=200:=by unfold bX;exact (cH (qD p [q] h)).2
theorem DI(N:Nat)(p q:b8):fQ N p q=fQ N p [gd q 0]:=by kernel_rfl
def uE:Ent:=(240,e2 (.tup [.agg f4]) ri fun p q=>(⟨.tup [.agg [.any],.agg f4,.c (.d (.sl 41))],bX p (gd q 0)⟩,aw (gd p 0) (gd p 1)&&(leI 0 (gd q 0).int&&leI (gd q 0).int 100)))
theorem Bx:ay f8 uE:=bm fun p q h=>cN (N:=122) (ks:=mW) (key:=bo) (al (fC ⟨cZ,fC ⟨gz,fC ⟨FO,fN⟩⟩⟩)) (cB Tryz.func240) Tryz.func240 fun hw y=>by rw[Cz];exact congrArg (fun x=>some (bo,x)) (((DI _ p q).trans (cH (qD p [gd q 0] h)).1).trans (by unfold bX;exact rfl))
abbrev oW:=find [dI,iK]
abbrev oU:=[0,1,4,5,6,7,8,15,20]
def jH(N:Nat)(p q:b8):b8->Out:=vC f8 oW N oU Tryz.f271 (.tup [.agg [.any],.agg f4,.c (.own (0,0) true 108)]) [⟨.tup [.agg f4],p⟩,⟨ri,q⟩] 0
def cR(M J y:D):b8:=aa (sub (aa [M,J,y] (.i 99)) 1 3) (.i 3)
theorem GF(N:Nat)(p q:b8)(y:b8):(jH N p q) (sub y 0 11) =
 bif ltI (gd y 7).int (gd y 4).int then nd (aw (gd y 8) (gd y 9)) (nd (bl ((gd y 3).rows ++ [[gd y 6,gd (aa [gd y 8,gd y 9,gd y 10] (.i 99)) 4]])&&true) (nd (aw (gd (aa [gd y 8,gd y 9,gd y 10] (.i 99)) 1) (gd (aa [gd y 8,gd y 9,gd y 10] (.i 99)) 2)) (nx [gd y 0,gd y 1,gd y 2,.l ((gd y 3).rows ++ [[gd y 6,gd (aa [gd y 8,gd y 9,gd y 10] (.i 99)) 4]]),gd y 4,gd y 5,.i (w64 ((w64 ((gd y 6).int+1))+(gd (cR (gd y 8) (gd y 9) (gd y 10)) 4).int)),.i (w64 ((gd y 7).int+1)),gd (cR (gd y 8) (gd y 9) (gd y 10)) 1,gd (cR (gd y 8) (gd y 9) (gd y 10)) 2,gd (cR (gd y 8) (gd y 9) (gd y 10)) 3])))
 else ex 0 [gd y 0,gd y 1,gd y 2,gd y 3,gd y 4,gd y 5,gd y 6,gd y 7,gd y 8,gd y 9,gd y 10]:=by kernel_rfl
def be(p q:b8):b8:=af (sub (aa (sub p 0 3) (.i (w64 ((gd q 0).int+1)))) 1 3) (.i 20)
def jv(N:Nat)(p q:b8)(y:Out):Out:=
 some (1,[.i 0,gd y.pay 8,gd y.pay 9,gd y.pay 10,gd y.pay 3])
def gu(N:Nat)(p q:b8):Out:=
 nd (aw (gd p 0) (gd p 1)) (nd (aw (gd (aa (sub p 0 3) (.i (w64 ((gd q 0).int+1)))) 1) (gd (aa (sub p 0 3) (.i (w64 ((gd q 0).int+1)))) 2)) (bif (gd (be p q) 4).bool then nd (aw (gd (be p q) 1) (gd (be p q) 2)) ((let y:=aX (jH N p q) N [.i 0,gd q 0,.l [],.l [],.i 60,gd (be p q) 4,gd (aa (sub (be p q) 1 3) (.i 4)) 4,.i 0,gd (aa (sub (be p q) 1 3) (.i 4)) 1,gd (aa (sub (be p q) 1 3) (.i 4)) 2,gd (aa (sub (be p q) 1 3) (.i 4)) 3]
  nd y.isSome (nd (y.code==2) (jv N p q y))))
 else nd (aw (gd (be p q) 1) (gd (be p q) 2)) ((let y:=aX (jH N p q) N [.i 0,gd q 0,.l [],.l [],gd (aa (sub p 0 3) (.i (w64 ((gd q 0).int+1)))) 4,gd (be p q) 4,gd (aa (sub (be p q) 1 3) (.i 4)) 4,.i 0,gd (aa (sub (be p q) 1 3) (.i 4)) 1,gd (aa (sub (be p q) 1 3) (.i 4)) 2,gd (aa (sub (be p q) 1 3) (.i 4)) 3]
  nd y.isSome (nd (y.code==2) (jv N p q y))))))
theorem Fc(N:Nat)(p q:b8):jT f8 oW N oU Tryz.f271 (.tup [.agg [.any],.agg f4,.c (.own (0,0) true 108)]) [⟨.tup [.agg f4],p⟩,⟨ri,q⟩]=some (bo,gu N p q):=by kernel_rfl
theorem DS(p q:b8)(st:b8)(e:st=sub st 0 11)(hc:aw (gd st 8) (gd st 9)=true)(hi:(gd st 7).int=0)(M:(gd st 3).rows.length=0)(y:(gd st 4).int<=120) :
  GG (fun c l=>c=2/\aw (gd l 8) (gd l 9)=true/\(gd l 3).rows.length<=120) (aX (jH 122 p q) 122 st):=by
 refine ir (I:=fun k s=>s=sub s 0 11/\aw (gd s 8) (gd s 9)=true/\(gd s 7).int=(k:Int)/\(gd s 3).rows.length<=k/\(gd s 4).int<=120/\k<=120) 120 (fun k s O=>?_) 122 0 st ⟨e,hc,hi,D5 M,y,n5 _⟩ (by decide) (n5 _);obtain⟨e,hc,hi,M,y,hk⟩:=O;have hw:w64 ((gd s 7).int+1)=((k+1:Nat):Int):=by rw[bD (by omega) (by omega)];omega
 refine grd e (geq (GF _ _ _ s) (bt (fun J=>gnd ?_ (gnd ?_ (gnd ?_ (bc (.inl ⟨rfl,?_,ar _,?_,hw,?_,y,?_⟩))))) (fun J=>bc (.inr ⟨by decide,rfl,?_,?_⟩))))
 all_goals try replace J:=(i7 J:_<_)
 all_goals first
  | (simp (maxDischargeDepth:=30) only [bU,ch,cx,dg,eu,dN,bn,gj,aq,ap,Nat.reduceAdd,u5,cR,be,hc];done)
  | (simp only[aq,ap,bd,i6,n9,z8,aA,cR,be];omega)
  | omega
  | exact dQ (by omega)
  | skip
@[irreducible] def cn(p:b8)(q:D):b8:=sub (gu (122) p [q]).pay 0 5
theorem rP(p q:b8)(h:(aw (gd p 0) (gd p 1)&&(leI 0 (gd q 0).int&&leI (gd q 0).int 100))=true):GG (fun c l=>c=1/\l=sub l 0 5/\(aw (gd l 1) (gd l 2)=true/\(gd l 4).rows.length<=150)) (gu (122) p q):=by
 simp only[a9] at h;obtain⟨h,J,M⟩:=h;have J:0<=(gd q 0).int:=i7 J;have M:(gd q 0).int<=100:=i7 M;have hm:(gd (aa (sub p 0 3) (.i (w64 ((gd q 0).int+1)))) 4).int<=120:=by have:=(qO (X:=p) (a:=0) (q:=.i (w64 ((gd q 0).int+1))) h).2;have e:(D.i (w64 ((gd q 0).int+1))).int=(gd q 0).int+1:=bD (by omega) (by omega);rw[e] at this;omega
 have hk:∀l,aw (gd l 8) (gd l 9)=true/\(gd l 3).rows.length<=120->GG (fun c l=>c=1/\l=sub l 0 5/\(aw (gd l 1) (gd l 2)=true/\(gd l 4).rows.length<=150)) (jv 122 p q (some (2,l))):=fun l hl=>by
  obtain⟨hc,O⟩:=hl;refine bc ⟨rfl,ar _,?_,?_⟩
  all_goals try simp only[Out.pay,z6,cR,be]
  all_goals try replace y:=(i7 y:_<_)
  all_goals first
   | (simp (maxDischargeDepth:=30) only [bU,ch,cx,dg,eu,dN,bn,gj,aq,ap,Nat.reduceAdd,u5,cR,be,hc];done)
   | (simp only[aq,ap,bd,i6,n9,z8,aA,cR,be];omega)
   | omega
   | exact dQ (by omega)
   | skip
 unfold gu;refine gnd ?_ (gnd ?_ (bt (fun y=>gnd ?_ (?_)) (fun y=>gnd ?_ (?_))))
 all_goals try refine git (K:=jv 122 p q) _ (DS p q _ (ar _) ?_ rfl rfl ?_) hk
 all_goals try exact hm
 all_goals try replace y:=(i7 y:_<_)
 all_goals first
  | (simp (maxDischargeDepth:=30) only [bU,ch,cx,dg,eu,dN,bn,gj,aq,ap,Nat.reduceAdd,u5,cR,be,h];done)
  | (simp only[aq,ap,bd,i6,n9,z8,aA,cR,be];omega)
  | omega
  | exact dQ (by omega)
  | skip
theorem tp{p:b8}{q:D}(h:(aw (gd p 0) (gd p 1)&&(leI 0 q.int&&leI q.int 100))=true):aw (gd (cn p q) 1) (gd (cn p q) 2)=true/\(gd (cn p q) 4).rows.length<=150:=by unfold cn;exact (cH (rP p [q] h)).2
theorem GW(N:Nat)(p q:b8):gu N p q=gu N p [gd q 0]:=by kernel_rfl
def wj:Ent:=(271,e2 (.tup [.agg f4]) ri fun p q=>(⟨.tup [.agg [.any],.agg f4,.c (.own (0,0) true 108)],cn p (gd q 0)⟩,aw (gd p 0) (gd p 1)&&(leI 0 (gd q 0).int&&leI (gd q 0).int 100)))
theorem EU:ay f8 wj:=bm fun p q h=>cN (N:=122) (ks:=oU) (key:=bo) (al (fC ⟨cZ,fC ⟨gz,fN⟩⟩)) (cB Tryz.func271) Tryz.func271 fun hw y=>by rw[Fc];exact congrArg (fun x=>some (bo,x)) (((GW _ p q).trans (cH (rP p [gd q 0] h)).1).trans (by unfold cn;exact rfl))
abbrev Bp:=find [wj,dI,ip]
abbrev Bb:=[0,1,4,5,10,11,20]
def cy(p q:b8):b8:=aa (sub (cn (sub p 0 3) (gd q 0)) 1 3) (.i 25)
def eZ(p q:b8):b8:=bZ (sub (cy p q) 1 3) (.l [[.i (-1)],[.i 0],[.i 999],[.i 1000]])
def fe(p q:b8):b8:=bZ (sub (cy p q) 1 3) (.l [[.i (-1)],[.i 1000000000],[.i 1000000001]])
def ka(N:Nat)(p q:b8):Out:=
 nd (aw (gd p 0) (gd p 1)&&(leI 0 (gd q 0).int&&leI (gd q 0).int 100)) (nd (aw (gd (cn (sub p 0 3) (gd q 0)) 1) (gd (cn (sub p 0 3) (gd q 0)) 2)) (bif (gd (cy p q) 4).int==0 then nd (aw (gd (cy p q) 1) (gd (cy p q) 2)&&xA (.l [[.i (-1)],[.i 0],[.i 999],[.i 1000]])) (nd (bl ((gd (cn (sub p 0 3) (gd q 0)) 4).rows ++ [[gd (eZ p q) 4,.i 0]])&&true) (some (1,[.i 0,gd (eZ p q) 1,gd (eZ p q) 2,gd (eZ p q) 3,.l ((gd (cn (sub p 0 3) (gd q 0)) 4).rows ++ [[gd (eZ p q) 4,.i 0]])])))
 else bif (gd (cy p q) 4).int==1 then nd (aw (gd (cy p q) 1) (gd (cy p q) 2)&&xA (.l [[.i (-1)],[.i 1000000000],[.i 1000000001]])) (nd (bl ((gd (cn (sub p 0 3) (gd q 0)) 4).rows ++ [[.i 900,gd (fe p q) 4]])&&true) (some (1,[.i 0,gd (fe p q) 1,gd (fe p q) 2,gd (fe p q) 3,.l ((gd (cn (sub p 0 3) (gd q 0)) 4).rows ++ [[.i 900,gd (fe p q) 4]])])))
 else some (1,[.i 0,gd (cy p q) 1,gd (cy p q) 2,gd (cy p q) 3,gd (cn (sub p 0 3) (gd q 0)) 4])))
theorem KA(N:Nat)(p q:b8):jT f8 Bp N Bb Tryz.f241 (.tup [.agg [.any],.agg f4,.c (.d (.sl 108))]) [⟨.tup [.agg f4],p⟩,⟨ri,q⟩]=some (bo,ka N p q):=by kernel_rfl
@[irreducible] def ej(p:b8)(q:D):b8:=sub (ka (0) p [q]).pay 0 5
theorem wm(p q:b8)(h:(aw (gd p 0) (gd p 1)&&(leI 0 (gd q 0).int&&leI (gd q 0).int 100))=true):GG (fun c l=>c=1/\l=sub l 0 5/\(aw (gd l 1) (gd l 2)=true/\(gd l 4).rows.length<=200)) (ka (0) p q):=by
 have y:=h;have hl:=(tp (p:=sub p 0 3) (q:=gd q 0) y).2;have hc:=(tp (p:=sub p 0 3) (q:=gd q 0) y).1;have y:(aw (gd p 0) (gd p 1)&&(leI 0 (gd q 0).int&&leI (gd q 0).int 100))=true:=h;refine gnd ?_ (gnd ?_ (bt (fun J=>gnd ?_ (gnd ?_ (bc ⟨rfl,ar _,?_,?_⟩))) (fun J=>bt (fun M=>gnd ?_ (gnd ?_ (bc ⟨rfl,ar _,?_,?_⟩))) (fun M=>bc ⟨rfl,ar _,?_,?_⟩))))
 all_goals try replace J:=(i7 J:_<_)
 all_goals first
  | (simp (maxDischargeDepth:=30) only [bU,ch,cx,dg,eu,dN,bn,gj,aq,ap,Nat.reduceAdd,u5,cy,eZ,fe,hc,y];done)
  | (simp only[aq,ap,bd,i6,n9,z8,aA,cy,eZ,fe];omega)
  | omega
  | exact dQ (by omega)
  | (simp only[aq,ap,bd,i6,n9,z8,aA,cy,eZ,fe];omega)
  | skip
theorem xf{p:b8}{q:D}(h:(aw (gd p 0) (gd p 1)&&(leI 0 q.int&&leI q.int 100))=true):aw (gd (ej p q) 1) (gd (ej p q) 2)=true/\(gd (ej p q) 4).rows.length<=200:=by unfold ej;exact (cH (wm p [q] h)).2
theorem Nd(N:Nat)(p q:b8):ka N p q=ka N p [gd q 0]:=by kernel_rfl
def AV:Ent:=(241,e2 (.tup [.agg f4]) ri fun p q=>(⟨.tup [.agg [.any],.agg f4,.c (.d (.sl 108))],ej p (gd q 0)⟩,aw (gd p 0) (gd p 1)&&(leI 0 (gd q 0).int&&leI (gd q 0).int 100)))
theorem Li:ay f8 AV:=bm fun p q h=>cN (N:=0) (ks:=Bb) (key:=bo) (al (fC ⟨EU,fC ⟨cZ,fC ⟨hD,fN⟩⟩⟩)) (cB Tryz.func241) Tryz.func241 fun hw y=>by rw[KA];exact congrArg (fun x=>some (bo,x)) (((Nd _ p q).trans (cH (wm p [gd q 0] h)).1).trans (by unfold ej;exact rfl))
abbrev nf:=find [dI,iK,ip]
abbrev mK:=[0,1,4,5,6,7,8,9,19,27,39,40,49]
def ll(N:Nat)(p q:b8):b8->Out:=vC f8 nf N mK Tryz.f173 (.tup [.agg [.any],.agg f4,.c (.d (.sl 70))]) [⟨.tup [.agg f4],p⟩,⟨ri,q⟩] 0
def bj(M J y:D):b8:=af (sub (aa [M,J,y] (.i 99)) 1 3) (.i 4)
theorem Ft(N:Nat)(p q:b8)(y:b8):(ll N p q) (sub y 0 10) =
 bif ltI (gd y 6).int (gd y 4).int then nd (aw (gd y 7) (gd y 8)) (nd (aw (gd (aa [gd y 7,gd y 8,gd y 9] (.i 99)) 1) (gd (aa [gd y 7,gd y 8,gd y 9] (.i 99)) 2)) (bif (gd (bj (gd y 7) (gd y 8) (gd y 9)) 4).bool then nd (bl ((gd y 3).rows ++ [[gd y 5,.i (-1)]])&&true) (nd (aw (gd (bj (gd y 7) (gd y 8) (gd y 9)) 1) (gd (bj (gd y 7) (gd y 8) (gd y 9)) 2)) (nx [gd y 0,gd y 1,gd y 2,.l ((gd y 3).rows ++ [[gd y 5,.i (-1)]]),gd y 4,.i (w64 ((w64 ((gd y 5).int+1))+(gd (aa (sub (bj (gd y 7) (gd y 8) (gd y 9)) 1 3) (.i 5)) 4).int)),.i (w64 ((gd y 6).int+1)),gd (aa (sub (bj (gd y 7) (gd y 8) (gd y 9)) 1 3) (.i 5)) 1,gd (aa (sub (bj (gd y 7) (gd y 8) (gd y 9)) 1 3) (.i 5)) 2,gd (aa (sub (bj (gd y 7) (gd y 8) (gd y 9)) 1 3) (.i 5)) 3]))
 else nd (bl ((gd y 3).rows ++ [[gd y 5,gd (aa [gd y 7,gd y 8,gd y 9] (.i 99)) 4]])&&true) (nd (aw (gd (bj (gd y 7) (gd y 8) (gd y 9)) 1) (gd (bj (gd y 7) (gd y 8) (gd y 9)) 2)) (nx [gd y 0,gd y 1,gd y 2,.l ((gd y 3).rows ++ [[gd y 5,gd (aa [gd y 7,gd y 8,gd y 9] (.i 99)) 4]]),gd y 4,.i (w64 ((w64 ((gd y 5).int+1))+(gd (aa (sub (bj (gd y 7) (gd y 8) (gd y 9)) 1 3) (.i 5)) 4).int)),.i (w64 ((gd y 6).int+1)),gd (aa (sub (bj (gd y 7) (gd y 8) (gd y 9)) 1 3) (.i 5)) 1,gd (aa (sub (bj (gd y 7) (gd y 8) (gd y 9)) 1 3) (.i 5)) 2,gd (aa (sub (bj (gd y 7) (gd y 8) (gd y 9)) 1 3) (.i 5)) 3]))))
 else ex 0 [gd y 0,gd y 1,gd y 2,gd y 3,gd y 4,gd y 5,gd y 6,gd y 7,gd y 8,gd y 9]:=by kernel_rfl
def cA(p q:b8):b8:=aa (sub (aa (sub p 0 3) (.i (w64 ((gd q 0).int+1)))) 1 3) (.i 6)
def cm(y:Out):b8:=bZ (sub (aa (sub y.pay 7 3) (.i 30)) 1 3) (.l [[.i (-1)],[.i 0],[.i 1000]])
def co(y:Out):b8:=bZ (sub (aa (sub y.pay 7 3) (.i 30)) 1 3) (.l [[.i (-2)],[.i 1000000000],[.i 1000000001]])
def mr(N:Nat)(p q:b8)(y:Out):Out:=
 nd (aw (gd y.pay 7) (gd y.pay 8)) (bif (gd (aa (sub y.pay 7 3) (.i 30)) 4).int==0 then nd (aw (gd (aa (sub y.pay 7 3) (.i 30)) 1) (gd (aa (sub y.pay 7 3) (.i 30)) 2)&&xA (.l [[.i (-1)],[.i 0],[.i 1000]])) (nd (bl ((gd y.pay 3).rows ++ [[gd (cm y) 4,.i 0]])&&true) (some (1,[.i 0,gd (cm y) 1,gd (cm y) 2,gd (cm y) 3,.l ((gd y.pay 3).rows ++ [[gd (cm y) 4,.i 0]])])))
  else bif (gd (aa (sub y.pay 7 3) (.i 30)) 4).int==1 then nd (aw (gd (aa (sub y.pay 7 3) (.i 30)) 1) (gd (aa (sub y.pay 7 3) (.i 30)) 2)&&xA (.l [[.i (-2)],[.i 1000000000],[.i 1000000001]])) (nd (bl ((gd y.pay 3).rows ++ [[.i 900,gd (co y) 4]])&&true) (some (1,[.i 0,gd (co y) 1,gd (co y) 2,gd (co y) 3,.l ((gd y.pay 3).rows ++ [[.i 900,gd (co y) 4]])])))
  else some (1,[.i 0,gd (aa (sub y.pay 7 3) (.i 30)) 1,gd (aa (sub y.pay 7 3) (.i 30)) 2,gd (aa (sub y.pay 7 3) (.i 30)) 3,gd y.pay 3]))
def fT(N:Nat)(p q:b8):Out:=
 nd (aw (gd p 0) (gd p 1)) (nd (aw (gd (aa (sub p 0 3) (.i (w64 ((gd q 0).int+1)))) 1) (gd (aa (sub p 0 3) (.i (w64 ((gd q 0).int+1)))) 2)) ((let y:=aX (ll N p q) N [.i 0,gd q 0,.l [],.l [],gd (aa (sub p 0 3) (.i (w64 ((gd q 0).int+1)))) 4,gd (cA p q) 4,.i 0,gd (cA p q) 1,gd (cA p q) 2,gd (cA p q) 3]
  nd y.isSome (nd (y.code==2) (mr N p q y)))))
theorem Do(N:Nat)(p q:b8):jT f8 nf N mK Tryz.f173 (.tup [.agg [.any],.agg f4,.c (.d (.sl 70))]) [⟨.tup [.agg f4],p⟩,⟨ri,q⟩]=some (bo,fT N p q):=by kernel_rfl
theorem CJ(p q:b8)(st:b8)(e:st=sub st 0 10)(hc:aw (gd st 7) (gd st 8)=true)(hi:(gd st 6).int=0)(M:(gd st 3).rows.length=0)(y:(gd st 4).int<=120) :
  GG (fun c l=>c=2/\aw (gd l 7) (gd l 8)=true/\(gd l 3).rows.length<=120) (aX (ll 122 p q) 122 st):=by
 refine ir (I:=fun k s=>s=sub s 0 10/\aw (gd s 7) (gd s 8)=true/\(gd s 6).int=(k:Int)/\(gd s 3).rows.length<=k/\(gd s 4).int<=120/\k<=120) 120 (fun k s U=>?_) 122 0 st ⟨e,hc,hi,D5 M,y,n5 _⟩ (by decide) (n5 _);obtain⟨e,hc,hi,M,y,hk⟩:=U;have hw:w64 ((gd s 6).int+1)=((k+1:Nat):Int):=by rw[bD (by omega) (by omega)];omega
 refine grd e (geq (Ft _ _ _ s) (bt (fun J=>gnd ?_ (gnd ?_ (bt (fun O=>gnd ?_ (gnd ?_ (bc (.inl ⟨rfl,?_,ar _,?_,hw,?_,y,?_⟩)))) (fun O=>gnd ?_ (gnd ?_ (bc (.inl ⟨rfl,?_,ar _,?_,hw,?_,y,?_⟩))))))) (fun J=>bc (.inr ⟨by decide,rfl,?_,?_⟩))))
 all_goals try replace J:=(i7 J:_<_)
 all_goals first
  | (simp (maxDischargeDepth:=30) only [bU,ch,cx,dg,eu,dN,bn,gj,aq,ap,Nat.reduceAdd,u5,bj,cA,cm,co,hc];done)
  | (simp only[aq,ap,bd,i6,n9,z8,aA,bj,cA,cm,co];omega)
  | omega
  | exact dQ (by omega)
  | skip
@[irreducible] def eU(p:b8)(q:D):b8:=sub (fT (122) p [q]).pay 0 5
theorem qI(p q:b8)(h:(aw (gd p 0) (gd p 1)&&(leI 0 (gd q 0).int&&leI (gd q 0).int 100))=true):GG (fun c l=>c=1/\l=sub l 0 5/\(aw (gd l 1) (gd l 2)=true/\(gd l 4).rows.length<=200)) (fT (122) p q):=by
 simp only[a9] at h;obtain⟨h,J,M⟩:=h;have J:0<=(gd q 0).int:=i7 J;have M:(gd q 0).int<=100:=i7 M;have hm:(gd (aa (sub p 0 3) (.i (w64 ((gd q 0).int+1)))) 4).int<=120:=by have:=(qO (X:=p) (a:=0) (q:=.i (w64 ((gd q 0).int+1))) h).2;have e:(D.i (w64 ((gd q 0).int+1))).int=(gd q 0).int+1:=bD (by omega) (by omega);rw[e] at this;omega
 have hk:∀l,aw (gd l 7) (gd l 8)=true/\(gd l 3).rows.length<=120->GG (fun c l=>c=1/\l=sub l 0 5/\(aw (gd l 1) (gd l 2)=true/\(gd l 4).rows.length<=200)) (mr 122 p q (some (2,l))):=fun l hl=>by
  obtain⟨hc,U⟩:=hl;refine gnd ?_ (bt (fun y=>gnd ?_ (gnd ?_ (bc ⟨rfl,ar _,?_,?_⟩))) (fun y=>bt (fun O=>gnd ?_ (gnd ?_ (bc ⟨rfl,ar _,?_,?_⟩))) (fun O=>bc ⟨rfl,ar _,?_,?_⟩)))
  all_goals try simp only[Out.pay,z6,bj,cA,cm,co]
  all_goals try replace y:=(i7 y:_<_)
  all_goals first
   | (simp (maxDischargeDepth:=30) only [bU,ch,cx,dg,eu,dN,bn,gj,aq,ap,Nat.reduceAdd,u5,bj,cA,cm,co,hc];done)
   | (simp only[aq,ap,bd,i6,n9,z8,aA,bj,cA,cm,co];omega)
   | omega
   | exact dQ (by omega)
   | skip
 unfold fT;refine gnd ?_ (gnd ?_ (?_))
 all_goals try refine git (K:=mr 122 p q) _ (CJ p q _ (ar _) ?_ rfl rfl ?_) hk
 all_goals try exact hm
 all_goals try replace y:=(i7 y:_<_)
 all_goals first
  | (simp (maxDischargeDepth:=30) only [bU,ch,cx,dg,eu,dN,bn,gj,aq,ap,Nat.reduceAdd,u5,bj,cA,cm,co,h];done)
  | (simp only[aq,ap,bd,i6,n9,z8,aA,bj,cA,cm,co];omega)
  | omega
  | exact dQ (by omega)
  | skip
theorem Fa{p:b8}{q:D}(h:(aw (gd p 0) (gd p 1)&&(leI 0 q.int&&leI q.int 100))=true):aw (gd (eU p q) 1) (gd (eU p q) 2)=true/\(gd (eU p q) 4).rows.length<=200:=by unfold eU;exact (cH (qI p [q] h)).2
theorem EL(N:Nat)(p q:b8):fT N p q=fT N p [gd q 0]:=by kernel_rfl
def tC:Ent:=(173,e2 (.tup [.agg f4]) ri fun p q=>(⟨.tup [.agg [.any],.agg f4,.c (.d (.sl 70))],eU p (gd q 0)⟩,aw (gd p 0) (gd p 1)&&(leI 0 (gd q 0).int&&leI (gd q 0).int 100)))
theorem Cx:ay f8 tC:=bm fun p q h=>cN (N:=122) (ks:=mK) (key:=bo) (al (fC ⟨cZ,fC ⟨gz,fC ⟨hD,fN⟩⟩⟩)) (cB Tryz.func173) Tryz.func173 fun hw y=>by rw[Do];exact congrArg (fun x=>some (bo,x)) (((EL _ p q).trans (cH (qI p [gd q 0] h)).1).trans (by unfold eU;exact rfl))
abbrev oN:=find [dI,iK,vJ]
abbrev oV:=[0,1,4,5,6,7,8,9,11,18,21,48,7000005,6000005]
def jD(N:Nat)(p q:b8):b8->Out:=vC f8 oN N oV Tryz.f272 (.tup [.agg [.any],.agg f4,.c (.own (0,0) false 93)]) [⟨.tup [.agg f4],p⟩,⟨ri,q⟩] 0
def bY(M J y:D):b8:=aa (sub (aa [M,J,y] (.i 40)) 1 3) (.i 9)
def cf(M J y:D):b8:=aa (sub (aa (sub (bY M J y) 1 3) (.i 6)) 1 3) (.i 3)
def dD(O M J y:D):b8:=ed O (.l [[.i 1],[.i 2],[.i 3],[.i 4],[.i 5],[.i 6],[.i 7],[.i 8],[.i 9]]) (.i (w64 (1+(gd (bY M J y) 4).int))) [gd (aa [M,J,y] (.i 40)) 4,.i (w64 ((w64 ((gd (aa [M,J,y] (.i 40)) 4).int+1))+(gd (aa (sub (bY M J y) 1 3) (.i 6)) 4).int))] (.i (w64 (1+(w64 ((gd (cf M J y) 4).int.tdiv 2)))))
theorem Hl(N:Nat)(p q:b8)(y:b8):(jD N p q) (sub y 0 10) =
 bif ltI (gd y 6).int (gd y 4).int then nd (aw (gd y 7) (gd y 8)) (nd (aw (gd (aa [gd y 7,gd y 8,gd y 9] (.i 40)) 1) (gd (aa [gd y 7,gd y 8,gd y 9] (.i 40)) 2)) (nd (aw (gd (bY (gd y 7) (gd y 8) (gd y 9)) 1) (gd (bY (gd y 7) (gd y 8) (gd y 9)) 2)) (nd (aw (gd (aa (sub (bY (gd y 7) (gd y 8) (gd y 9)) 1 3) (.i 6)) 1) (gd (aa (sub (bY (gd y 7) (gd y 8) (gd y 9)) 1 3) (.i 6)) 2)) (nd (2 != 0) (bif (gd (sub (dD (gd y 3) (gd y 7) (gd y 8) (gd y 9)) 0 3) 2).int==0 then nx [gd y 0,gd y 1,gd y 2,gd (sub (dD (gd y 3) (gd y 7) (gd y 8) (gd y 9)) 0 3) 0,gd y 4,gd y 5,.i (w64 ((gd y 6).int+1)),gd (cf (gd y 7) (gd y 8) (gd y 9)) 1,gd (cf (gd y 7) (gd y 8) (gd y 9)) 2,gd (cf (gd y 7) (gd y 8) (gd y 9)) 3]
 else nx [gd y 0,gd y 1,gd y 2,gd y 3,gd y 4,gd y 5,.i (w64 ((gd y 6).int+1)),gd (cf (gd y 7) (gd y 8) (gd y 9)) 1,gd (cf (gd y 7) (gd y 8) (gd y 9)) 2,gd (cf (gd y 7) (gd y 8) (gd y 9)) 3])))))
 else ex 0 [gd y 0,gd y 1,gd y 2,gd y 3,gd y 4,gd y 5,gd y 6,gd y 7,gd y 8,gd y 9]:=by kernel_rfl
def bI(p q:b8):b8:=af (sub (aa (sub p 0 3) (.i (w64 ((gd q 0).int+1)))) 1 3) (.i 15)
def jE(N:Nat)(p q:b8)(y:Out):Out:=
 some (1,[.i 0,gd y.pay 7,gd y.pay 8,gd y.pay 9,gd y.pay 3])
def gv(N:Nat)(p q:b8):Out:=
 nd (aw (gd p 0) (gd p 1)) (nd (aw (gd (aa (sub p 0 3) (.i (w64 ((gd q 0).int+1)))) 1) (gd (aa (sub p 0 3) (.i (w64 ((gd q 0).int+1)))) 2)) (bif (gd (bI p q) 4).bool then (let y:=aX (jD N p q) N [.i 0,gd q 0,.l [],.l [],.i 120,gd (bI p q) 4,.i 0,gd (bI p q) 1,gd (bI p q) 2,gd (bI p q) 3]
  nd y.isSome (nd (y.code==2) (jE N p q y)))
 else (let y:=aX (jD N p q) N [.i 0,gd q 0,.l [],.l [],gd (aa (sub p 0 3) (.i (w64 ((gd q 0).int+1)))) 4,gd (bI p q) 4,.i 0,gd (bI p q) 1,gd (bI p q) 2,gd (bI p q) 3]
  nd y.isSome (nd (y.code==2) (jE N p q y)))))
theorem FN(N:Nat)(p q:b8):jT f8 oN N oV Tryz.f272 (.tup [.agg [.any],.agg f4,.c (.own (0,0) false 93)]) [⟨.tup [.agg f4],p⟩,⟨ri,q⟩]=some (bo,gv N p q):=by kernel_rfl
theorem fS9(p q:b8)(st:b8)(e:st=sub st 0 10)(hc:aw (gd st 7) (gd st 8)=true)(hi:(gd st 6).int=0)(O:(gd st 3).rows.length=0)(y:(gd st 4).int<=120) :
  GG (fun c l=>c=2/\aw (gd l 7) (gd l 8)=true/\(gd l 3).rows.length<=120) (aX (jD 122 p q) 122 st):=by
 refine ir (I:=fun k s=>s=sub s 0 10/\aw (gd s 7) (gd s 8)=true/\(gd s 6).int=(k:Int)/\(gd s 3).rows.length<=41/\(gd s 4).int<=120/\k<=120) 120 (fun k s U=>?_) 122 0 st ⟨e,hc,hi,by omega,y,n5 _⟩ (by decide) (n5 _);obtain⟨e,hc,hi,O,y,hk⟩:=U;have hw:w64 ((gd s 6).int+1)=((k+1:Nat):Int):=by rw[bD (by omega) (by omega)];omega
 have V:∀l h n a m,(gd (sub (ed l h n a m) 0 3) 0).rows.length<=41:=fun l h n a m=>(EM l h n a m).1
 refine grd e (geq (Hl _ _ _ s) (bt (fun J=>gnd ?_ (gnd ?_ (gnd ?_ (gnd ?_ (gnd ?_ (bt (fun M=>bc (.inl ⟨rfl,?_,ar _,?_,hw,?_,y,?_⟩)) (fun M=>bc (.inl ⟨rfl,?_,ar _,?_,hw,?_,y,?_⟩)))))))) (fun J=>bc (.inr ⟨by decide,rfl,?_,?_⟩))))
 all_goals try replace J:=(i7 J:_<_)
 all_goals first
  | (simp (maxDischargeDepth:=30) only [bU,ch,cx,dg,eu,dN,bn,gj,aq,ap,Nat.reduceAdd,u5,bY,cf,dD,bI,hc];done)
  | (simp only[aq,ap,bd,i6,n9,z8,aA,bY,cf,dD,bI];omega)
  | omega
  | exact dQ (by omega)
  | exact V _ _ _ _ _
  | exact rfl
  | skip
@[irreducible] def ck(p:b8)(q:D):b8:=sub (gv (122) p [q]).pay 0 5
theorem so(p q:b8)(h:(aw (gd p 0) (gd p 1)&&(leI 0 (gd q 0).int&&leI (gd q 0).int 100))=true):GG (fun c l=>c=1/\l=sub l 0 5/\(aw (gd l 1) (gd l 2)=true/\(gd l 4).rows.length<=150)) (gv (122) p q):=by
 simp only[a9] at h;obtain⟨h,J,M⟩:=h;have J:0<=(gd q 0).int:=i7 J;have M:(gd q 0).int<=100:=i7 M;have hm:(gd (aa (sub p 0 3) (.i (w64 ((gd q 0).int+1)))) 4).int<=120:=by have:=(qO (X:=p) (a:=0) (q:=.i (w64 ((gd q 0).int+1))) h).2;have e:(D.i (w64 ((gd q 0).int+1))).int=(gd q 0).int+1:=bD (by omega) (by omega);rw[e] at this;omega
 have hk:∀l,aw (gd l 7) (gd l 8)=true/\(gd l 3).rows.length<=120->GG (fun c l=>c=1/\l=sub l 0 5/\(aw (gd l 1) (gd l 2)=true/\(gd l 4).rows.length<=150)) (jE 122 p q (some (2,l))):=fun l hl=>by
  obtain⟨hc,O⟩:=hl;refine bc ⟨rfl,ar _,?_,?_⟩
  all_goals try simp only[Out.pay,z6,bY,cf,dD,bI]
  all_goals try replace y:=(i7 y:_<_)
  all_goals first
   | (simp (maxDischargeDepth:=30) only [bU,ch,cx,dg,eu,dN,bn,gj,aq,ap,Nat.reduceAdd,u5,bY,cf,dD,bI,hc];done)
   | (simp only[aq,ap,bd,i6,n9,z8,aA,bY,cf,dD,bI];omega)
   | omega
   | exact dQ (by omega)
   | skip
 unfold gv;refine gnd ?_ (gnd ?_ (bt (fun y=>?_) (fun y=>?_)))
 all_goals try refine git (K:=jE 122 p q) _ (fS9 p q _ (ar _) ?_ rfl rfl ?_) hk
 all_goals try exact hm
 all_goals try replace y:=(i7 y:_<_)
 all_goals first
  | (simp (maxDischargeDepth:=30) only [bU,ch,cx,dg,eu,dN,bn,gj,aq,ap,Nat.reduceAdd,u5,bY,cf,dD,bI,h];done)
  | (simp only[aq,ap,bd,i6,n9,z8,aA,bY,cf,dD,bI];omega)
  | omega
  | exact dQ (by omega)
  | skip
theorem um{p:b8}{q:D}(h:(aw (gd p 0) (gd p 1)&&(leI 0 q.int&&leI q.int 100))=true):aw (gd (ck p q) 1) (gd (ck p q) 2)=true/\(gd (ck p q) 4).rows.length<=150:=by unfold ck;exact (cH (so p [q] h)).2
theorem Hb(N:Nat)(p q:b8):gv N p q=gv N p [gd q 0]:=by kernel_rfl
def wz:Ent:=(272,e2 (.tup [.agg f4]) ri fun p q=>(⟨.tup [.agg [.any],.agg f4,.c (.own (0,0) false 93)],ck p (gd q 0)⟩,aw (gd p 0) (gd p 1)&&(leI 0 (gd q 0).int&&leI (gd q 0).int 100)))
theorem Gd:ay f8 wz:=bm fun p q h=>cN (N:=122) (ks:=oV) (key:=bo) (al (fC ⟨cZ,fC ⟨gz,fC ⟨vH,fN⟩⟩⟩)) (cB Tryz.func272) Tryz.func272 fun hw y=>by rw[FN];exact congrArg (fun x=>some (bo,x)) (((Hb _ p q).trans (cH (so p [gd q 0] h)).1).trans (by unfold ck;exact rfl))
abbrev AR:=find [wz,dI,ip]
abbrev AW:=[0,1,4,5,10,11,20]
def cD(p q:b8):b8:=aa (sub (ck (sub p 0 3) (gd q 0)) 1 3) (.i 25)
def db(p q:b8):b8:=bZ (sub (cD p q) 1 3) (.l [[.i 5],[.i 30]])
def fj(p q:b8):b8:=bZ (sub (cD p q) 1 3) (.l [[.i 0],[.i 60],[.i 61]])
def kg(N:Nat)(p q:b8):Out:=
 nd (aw (gd p 0) (gd p 1)&&(leI 0 (gd q 0).int&&leI (gd q 0).int 100)) (nd (aw (gd (ck (sub p 0 3) (gd q 0)) 1) (gd (ck (sub p 0 3) (gd q 0)) 2)) (bif (gd (cD p q) 4).int==0 then nd (aw (gd (cD p q) 1) (gd (cD p q) 2)&&xA (.l [[.i 0],[.i 60],[.i 61]])) (nd (bl ((gd (ck (sub p 0 3) (gd q 0)) 4).rows ++ [[gd (fj p q) 4,.i 900,.i 901,.i 1]])&&true) (some (1,[.i 0,gd (fj p q) 1,gd (fj p q) 2,gd (fj p q) 3,.l ((gd (ck (sub p 0 3) (gd q 0)) 4).rows ++ [[gd (fj p q) 4,.i 900,.i 901,.i 1]])])))
 else bif (gd (cD p q) 4).int==1 then nd (aw (gd (cD p q) 1) (gd (cD p q) 2)&&xA (.l [[.i 5],[.i 30]])) (nd (aw (gd (db p q) 1) (gd (db p q) 2)) (nd (bl ((gd (ck (sub p 0 3) (gd q 0)) 4).rows ++ [[.i 1,.i 5,gd (db p q) 4,gd (aa (sub (db p q) 1 3) (.i 4)) 4]])&&true) (some (1,[.i 0,gd (aa (sub (db p q) 1 3) (.i 4)) 1,gd (aa (sub (db p q) 1 3) (.i 4)) 2,gd (aa (sub (db p q) 1 3) (.i 4)) 3,.l ((gd (ck (sub p 0 3) (gd q 0)) 4).rows ++ [[.i 1,.i 5,gd (db p q) 4,gd (aa (sub (db p q) 1 3) (.i 4)) 4]])]))))
 else some (1,[.i 0,gd (cD p q) 1,gd (cD p q) 2,gd (cD p q) 3,gd (ck (sub p 0 3) (gd q 0)) 4])))
theorem Kh(N:Nat)(p q:b8):jT f8 AR N AW Tryz.f242 (.tup [.agg [.any],.agg f4,.c (.d (.sl 93))]) [⟨.tup [.agg f4],p⟩,⟨ri,q⟩]=some (bo,kg N p q):=by kernel_rfl
@[irreducible] def ek(p:b8)(q:D):b8:=sub (kg (0) p [q]).pay 0 5
theorem wR(p q:b8)(h:(aw (gd p 0) (gd p 1)&&(leI 0 (gd q 0).int&&leI (gd q 0).int 100))=true):GG (fun c l=>c=1/\l=sub l 0 5/\(aw (gd l 1) (gd l 2)=true/\(gd l 4).rows.length<=200)) (kg (0) p q):=by
 have y:=h;have hl:=(um (p:=sub p 0 3) (q:=gd q 0) y).2;have hc:=(um (p:=sub p 0 3) (q:=gd q 0) y).1;have y:(aw (gd p 0) (gd p 1)&&(leI 0 (gd q 0).int&&leI (gd q 0).int 100))=true:=h;refine gnd ?_ (gnd ?_ (bt (fun J=>gnd ?_ (gnd ?_ (bc ⟨rfl,ar _,?_,?_⟩))) (fun J=>bt (fun M=>gnd ?_ (gnd ?_ (gnd ?_ (bc ⟨rfl,ar _,?_,?_⟩)))) (fun M=>bc ⟨rfl,ar _,?_,?_⟩))))
 all_goals try replace J:=(i7 J:_<_)
 all_goals first
  | (simp (maxDischargeDepth:=30) only [bU,ch,cx,dg,eu,dN,bn,gj,aq,ap,Nat.reduceAdd,u5,cD,db,fj,hc,y];done)
  | (simp only[aq,ap,bd,i6,n9,z8,aA,cD,db,fj];omega)
  | omega
  | exact dQ (by omega)
  | (simp only[aq,ap,bd,i6,n9,z8,aA,cD,db,fj];omega)
  | skip
theorem xD{p:b8}{q:D}(h:(aw (gd p 0) (gd p 1)&&(leI 0 q.int&&leI q.int 100))=true):aw (gd (ek p q) 1) (gd (ek p q) 2)=true/\(gd (ek p q) 4).rows.length<=200:=by unfold ek;exact (cH (wR p [q] h)).2
theorem MR(N:Nat)(p q:b8):kg N p q=kg N p [gd q 0]:=by kernel_rfl
def AB:Ent:=(242,e2 (.tup [.agg f4]) ri fun p q=>(⟨.tup [.agg [.any],.agg f4,.c (.d (.sl 93))],ek p (gd q 0)⟩,aw (gd p 0) (gd p 1)&&(leI 0 (gd q 0).int&&leI (gd q 0).int 100)))
theorem Le:ay f8 AB:=bm fun p q h=>cN (N:=0) (ks:=AW) (key:=bo) (al (fC ⟨Gd,fC ⟨cZ,fC ⟨hD,fN⟩⟩⟩)) (cB Tryz.func242) Tryz.func242 fun hw y=>by rw[Kh];exact congrArg (fun x=>some (bo,x)) (((MR _ p q).trans (cH (wR p [gd q 0] h)).1).trans (by unfold ek;exact rfl))
abbrev zp:=find [dI]
abbrev yE:=[0,2,3]
def gt(p:b8):b8:=aa (sub (aa (sub p 0 3) (.i 40)) 1 3) (.i 6)
def mh(N:Nat)(p:b8):Out:=
 nd (aw (gd p 0) (gd p 1)) (nd (aw (gd (aa (sub p 0 3) (.i 40)) 1) (gd (aa (sub p 0 3) (.i 40)) 2)) (some (1,[.i 0,gd (gt p) 1,gd (gt p) 2,gd (gt p) 3,gd (aa (sub p 0 3) (.i 40)) 4,.i (w64 ((w64 ((gd (aa (sub p 0 3) (.i 40)) 4).int+1))+(gd (gt p) 4).int))])))
theorem Id(N:Nat)(p:b8):jT f8 zp N yE Tryz.f227 (.tup [.agg [.any],.agg f4,.agg [.d si,.d si]]) [⟨.tup [.agg f4],p⟩]=some (bo,mh N p):=by kernel_rfl
@[irreducible] def aO(p:b8):b8:=sub (mh (0) p).pay 0 6
theorem tw(p:b8)(h:(aw (gd p 0) (gd p 1))=true):GG (fun c l=>c=1/\l=sub l 0 6/\(aw (gd l 1) (gd l 2)=true)) (mh (0) p):=by
 unfold mh;refine gnd ?_ (gnd ?_ (bc ⟨rfl,ar _,?_⟩))
 all_goals try replace y:=(i7 y:_<_)
 all_goals first
  | (simp (maxDischargeDepth:=30) only [bU,ch,cx,dg,eu,dN,bn,gj,aq,ap,Nat.reduceAdd,u5,gt,h];done)
  | (simp only[aq,ap,bd,i6,n9,z8,aA,gt];omega)
  | omega
  | exact dQ (by omega)
  | skip
theorem wI{p:b8}(h:(aw (gd p 0) (gd p 1))=true):aw (gd (aO p) 1) (gd (aO p) 2)=true:=by unfold aO;exact (cH (tw p h)).2
theorem XI{X:b8}{a:Nat}(h:aw (gd X a) (gd X (a+1))=true):aw (gd (aO (sub X a 3)) 1) (gd (aO (sub X a 3)) 2)=true:=wI (p:=sub X a 3) h
theorem SY{x y z:D}(h:aw x y=true):aw (gd (aO [x,y,z]) 1) (gd (aO [x,y,z]) 2)=true:=wI (p:= [x,y,z]) h
def qC:Ent:=(227,e1 (.tup [.agg f4]) fun p=>(⟨.tup [.agg [.any],.agg f4,.agg [.d si,.d si]],aO p⟩,aw (gd p 0) (gd p 1)))
theorem tO:ay f8 qC:=cK fun p h=>cN (N:=0) (ks:=yE) (key:=bo) (al (fC ⟨cZ,fN⟩)) (cB Tryz.func227) Tryz.func227 fun hw y=>by rw[Id];exact congrArg (fun x=>some (bo,x)) ((cH (tw p h)).1.trans (by unfold aO;exact rfl))
abbrev ns:=find [dI,iK]
abbrev mT:=[0,2,3,4,5,6,13,21]
def rS(N:Nat)(p:b8):b8->Out:=vC f8 ns N mT Tryz.f171 (.tup [.agg [.any],.agg f4,.c (.d (.sl 70))]) [⟨.tup [.agg f4],p⟩] 0
def cl(J x6 y:D):b8:=aa (sub (aa [J,x6,y] (.i 4)) 1 3) (.i 99)
def cU(J x6 y:D):b8:=aa (sub (af (sub (cl J x6 y) 1 3) (.i 5)) 1 3) (.i 8)
theorem Ga(N:Nat)(p:b8)(y:b8):(rS N p) (sub y 0 8) =
 nd (aw (gd y 5) (gd y 6)) (bif ltI (gd y 4).int (gd (aa [gd y 5,gd y 6,gd y 7] (.i 4)) 4).int then nd (aw (gd (aa [gd y 5,gd y 6,gd y 7] (.i 4)) 1) (gd (aa [gd y 5,gd y 6,gd y 7] (.i 4)) 2)) (nd (aw (gd (cl (gd y 5) (gd y 6) (gd y 7)) 1) (gd (cl (gd y 5) (gd y 6) (gd y 7)) 2)) (bif (gd (af (sub (cl (gd y 5) (gd y 6) (gd y 7)) 1 3) (.i 5)) 4).bool then nd (bl ((gd y 2).rows ++ [[gd y 3,.i (-1)]])&&true) (nd (aw (gd (af (sub (cl (gd y 5) (gd y 6) (gd y 7)) 1 3) (.i 5)) 1) (gd (af (sub (cl (gd y 5) (gd y 6) (gd y 7)) 1 3) (.i 5)) 2)) (nx [gd y 0,gd y 1,.l ((gd y 2).rows ++ [[gd y 3,.i (-1)]]),.i (w64 ((w64 ((gd y 3).int+1))+(gd (cU (gd y 5) (gd y 6) (gd y 7)) 4).int)),.i (w64 ((gd y 4).int+1)),gd (cU (gd y 5) (gd y 6) (gd y 7)) 1,gd (cU (gd y 5) (gd y 6) (gd y 7)) 2,gd (cU (gd y 5) (gd y 6) (gd y 7)) 3]))
 else nd (bl ((gd y 2).rows ++ [[gd y 3,gd (cl (gd y 5) (gd y 6) (gd y 7)) 4]])&&true) (nd (aw (gd (af (sub (cl (gd y 5) (gd y 6) (gd y 7)) 1 3) (.i 5)) 1) (gd (af (sub (cl (gd y 5) (gd y 6) (gd y 7)) 1 3) (.i 5)) 2)) (nx [gd y 0,gd y 1,.l ((gd y 2).rows ++ [[gd y 3,gd (cl (gd y 5) (gd y 6) (gd y 7)) 4]]),.i (w64 ((w64 ((gd y 3).int+1))+(gd (cU (gd y 5) (gd y 6) (gd y 7)) 4).int)),.i (w64 ((gd y 4).int+1)),gd (cU (gd y 5) (gd y 6) (gd y 7)) 1,gd (cU (gd y 5) (gd y 6) (gd y 7)) 2,gd (cU (gd y 5) (gd y 6) (gd y 7)) 3]))))
 else ex 0 [gd y 0,gd y 1,gd y 2,gd y 3,gd y 4,gd (aa [gd y 5,gd y 6,gd y 7] (.i 4)) 1,gd (aa [gd y 5,gd y 6,gd y 7] (.i 4)) 2,gd (aa [gd y 5,gd y 6,gd y 7] (.i 4)) 3]):=by kernel_rfl
def rE(N:Nat)(p:b8)(y:Out):Out:=
 some (1,[.i 0,gd y.pay 5,gd y.pay 6,gd y.pay 7,gd y.pay 2])
def jJ(N:Nat)(p:b8):Out:=
 nd (aw (gd p 0) (gd p 1)) ((let y:=aX (rS N p) N [.i 0,.l [],.l [],gd (aa (sub p 0 3) (.i 20)) 4,.i 0,gd (aa (sub p 0 3) (.i 20)) 1,gd (aa (sub p 0 3) (.i 20)) 2,gd (aa (sub p 0 3) (.i 20)) 3]
  nd y.isSome (nd (y.code==2) (rE N p y))))
theorem BN(N:Nat)(p:b8):jT f8 ns N mT Tryz.f171 (.tup [.agg [.any],.agg f4,.c (.d (.sl 70))]) [⟨.tup [.agg f4],p⟩]=some (bo,jJ N p):=by kernel_rfl
@[irreducible] def aE(p:b8):b8:=sub (jJ (6) p).pay 0 5
theorem qF(p:b8)(h:(aw (gd p 0) (gd p 1))=true):GG (fun c l=>c=1/\l=sub l 0 5/\(aw (gd l 1) (gd l 2)=true/\(gd l 4).rows.length<=200)) (jJ (6) p):=by
 unfold jJ;refine gnd h (git (K:=rE 6 p) (c:=2) (fun l=>aw (gd l 5) (gd l 6)=true/\(gd l 2).rows.length<=4) ?_ ?_)
 ·refine ir (I:=fun k s=>s=sub s 0 8/\aw (gd s 5) (gd s 6)=true/\(gd s 4).int=(k:Int)/\(gd s 2).rows.length<=k/\k<=4) 4 (fun k s M=>?_) 6 0 _ ⟨ar _,by simp (maxDischargeDepth:=30) only [bU,aq,ap,Nat.reduceAdd,h],rfl,i8 _,n5 _⟩ (by decide) (n5 _);obtain⟨e,hc,hi,O,hk⟩:=M;have hw:w64 ((gd s 4).int+1)=((k+1:Nat):Int):=by rw[bD (by omega) (by omega)];omega
  have U:(gd (aa [gd s 5,gd s 6,gd s 7] (.i 4)) 4).int<4:=by have:=(If (z:=gd s 7) (q:=.i 4) hc).2;rw[aA] at this;omega
  refine grd e (geq (Ga _ _ s) (gnd ?_ (bt (fun y=>gnd ?_ (gnd ?_ (bt (fun J=>gnd ?_ (gnd ?_ (bc (.inl ⟨rfl,?_,ar _,?_,hw,?_,?_⟩)))) (fun J=>gnd ?_ (gnd ?_ (bc (.inl ⟨rfl,?_,ar _,?_,hw,?_,?_⟩))))))) (fun y=>bc (.inr ⟨by decide,rfl,?_,?_⟩)))))
  all_goals try replace y:=(i7 y:_<_)
  all_goals first
   | (simp (maxDischargeDepth:=30) only [bU,ch,cx,dg,eu,dN,bn,gj,aq,ap,Nat.reduceAdd,u5,cl,cU,hc];done)
   | (simp only[aq,ap,bd,i6,n9,z8,aA,cl,cU];omega)
   | omega
   | exact dQ (by omega)
   | exact rfl
   | skip
 ·intro l hl;refine bc ⟨rfl,ar _,hl.1,?_⟩;have:=hl.2;show (gd l 2).rows.length<=200;omega
theorem rF{p:b8}(h:(aw (gd p 0) (gd p 1))=true):aw (gd (aE p) 1) (gd (aE p) 2)=true/\(gd (aE p) 4).rows.length<=200:=by unfold aE;exact (cH (qF p h)).2
def jx:Ent:=(171,e1 (.tup [.agg f4]) fun p=>(⟨.tup [.agg [.any],.agg f4,.c (.d (.sl 70))],aE p⟩,aw (gd p 0) (gd p 1)))
theorem kP:ay f8 jx:=cK fun p h=>cN (N:=6) (ks:=mT) (key:=bo) (al (fC ⟨cZ,fC ⟨gz,fN⟩⟩)) (cB Tryz.func171) Tryz.func171 fun hw y=>by rw[BN];exact congrArg (fun x=>some (bo,x)) ((cH (qF p h)).1.trans (by unfold aE;exact rfl))
abbrev oS:=find [iK,ig,qC]
abbrev oT:=[0,1,2,4,6,7,8,14,34,45]
def ue(N:Nat)(p q r:b8):b8->Out:=vC f8 oS N oT Tryz.f170 (.tup [.agg [.any],.agg f4,.c (.own (0,0) true 41)]) [⟨.tup [.agg f4],p⟩,⟨ag aR,q⟩,⟨ri,r⟩] 0
theorem GP(N:Nat)(p q r:b8)(y:b8):(ue N p q r) (sub y 0 27) =
 bif ltI (gd y 14).int ((gd y 22).rows.length:Int) then nd (ah (gd y 14).int (gd y 22).rows.length) (bif (gd ((gd y 22).rows.getD (gd y 14).int.toNat []) 0).int==(gd y 10).int then bif ltI ((gd y 13).rows.length:Int) 5 then nd (aw (gd y 15) (gd y 16)) (bif !(gd (af [gd y 15,gd y 16,gd y 17] (.i 4)) 4).bool then nd (ah (gd y 14).int (gd y 22).rows.length) (nd (bl ((gd y 13).rows ++ [[(gd ((gd y 22).rows.getD (gd y 14).int.toNat []) 1),(gd ((gd y 22).rows.getD (gd y 14).int.toNat []) 2)]])&&true) (nx [gd y 0,gd y 1,gd y 2,gd y 3,gd y 4,gd y 5,gd y 6,gd y 7,gd y 8,gd y 9,gd y 10,gd y 11,gd y 12,.l ((gd y 13).rows ++ [[(gd ((gd y 22).rows.getD (gd y 14).int.toNat []) 1),(gd ((gd y 22).rows.getD (gd y 14).int.toNat []) 2)]]),.i (w64 ((gd y 14).int+1)),gd (af [gd y 15,gd y 16,gd y 17] (.i 4)) 1,gd (af [gd y 15,gd y 16,gd y 17] (.i 4)) 2,gd (af [gd y 15,gd y 16,gd y 17] (.i 4)) 3,gd y 18,gd y 19,gd y 20,gd y 21,gd y 22,gd y 23,gd y 24,gd y 25,gd y 26]))
 else nx [gd y 0,gd y 1,gd y 2,gd y 3,gd y 4,gd y 5,gd y 6,gd y 7,gd y 8,gd y 9,gd y 10,gd y 11,gd y 12,gd y 13,.i (w64 ((gd y 14).int+1)),gd (af [gd y 15,gd y 16,gd y 17] (.i 4)) 1,gd (af [gd y 15,gd y 16,gd y 17] (.i 4)) 2,gd (af [gd y 15,gd y 16,gd y 17] (.i 4)) 3,gd y 18,gd y 19,gd y 20,gd y 21,gd y 22,gd y 23,gd y 24,gd y 25,gd y 26])
 else nx [gd y 0,gd y 1,gd y 2,gd y 3,gd y 4,gd y 5,gd y 6,gd y 7,gd y 8,gd y 9,gd y 10,gd y 11,gd y 12,gd y 13,.i (w64 ((gd y 14).int+1)),gd y 15,gd y 16,gd y 17,gd y 18,gd y 19,gd y 20,gd y 21,gd y 22,gd y 23,gd y 24,gd y 25,gd y 26]
 else nx [gd y 0,gd y 1,gd y 2,gd y 3,gd y 4,gd y 5,gd y 6,gd y 7,gd y 8,gd y 9,gd y 10,gd y 11,gd y 12,gd y 13,.i (w64 ((gd y 14).int+1)),gd y 15,gd y 16,gd y 17,gd y 18,gd y 19,gd y 20,gd y 21,gd y 22,gd y 23,gd y 24,gd y 25,gd y 26])
 else ex 0 [gd y 0,gd y 1,gd y 2,gd y 3,gd y 4,gd y 5,gd y 6,gd y 7,gd y 8,gd y 9,gd y 10,gd y 11,gd y 12,gd y 13,gd y 14,gd y 15,gd y 16,gd y 17,gd y 18,gd y 19,gd y 20,gd y 21,gd y 22,gd y 23,gd y 24,gd y 25,gd y 26]:=by kernel_rfl
def dh(y:Out):b8:=aO (sub (af (sub y.pay 15 3) (.i 12)) 1 3)
def tX(N:Nat)(p q r:b8)(y:Out):Out:=
 nd (aw (gd y.pay 15) (gd y.pay 16)) (bif (gd (af (sub y.pay 15 3) (.i 12)) 4).bool then nd (aw (gd (af (sub y.pay 15 3) (.i 12)) 1) (gd (af (sub y.pay 15 3) (.i 12)) 2)) (nd (bl ((gd y.pay 13).rows ++ [sub (dh y) 4 2])&&true) (some (1,[.i 0,gd (dh y) 1,gd (dh y) 2,gd (dh y) 3,.l ((gd y.pay 13).rows ++ [sub (dh y) 4 2])])))
  else some (1,[.i 0,gd (af (sub y.pay 15 3) (.i 12)) 1,gd (af (sub y.pay 15 3) (.i 12)) 2,gd (af (sub y.pay 15 3) (.i 12)) 3,gd y.pay 13]))
def iJ(N:Nat)(p q r:b8):Out:=
 (let y:=aX (ue N p q r) N [.i 0,gd q 0,gd q 1,gd q 2,gd q 3,gd q 4,gd q 5,gd q 6,gd q 7,gd q 8,gd r 0,.i 0,.l [],.l [],.i 0,gd p 0,gd p 1,gd p 2,gd q 0,gd q 1,gd q 2,gd q 3,gd q 4,gd q 5,gd q 6,gd q 7,gd q 8]
  nd y.isSome (nd (y.code==2) (tX N p q r y)))
theorem ES(N:Nat)(p q r:b8):jT f8 oS N oT Tryz.f170 (.tup [.agg [.any],.agg f4,.c (.own (0,0) true 41)]) [⟨.tup [.agg f4],p⟩,⟨ag aR,q⟩,⟨ri,r⟩]=some (bo,iJ N p q r):=by kernel_rfl
@[irreducible] def dv(p:b8)(q:b8)(r:D):b8:=sub (iJ ((gd q 4).rows.length+1) p q [r]).pay 0 5
theorem rL(p q r:b8)(h:(aw (gd p 0) (gd p 1)&&leI ((gd q 4).rows.length:Int) 1000000)=true):GG (fun c l=>c=1/\l=sub l 0 5/\(aw (gd l 1) (gd l 2)=true/\(gd l 4).rows.length<=200)) (iJ ((gd q 4).rows.length+1) p q r):=by
 rw[a9] at h;obtain⟨h,V⟩:=h;have V:((gd q 4).rows.length:Int)<=1000000:=i7 V;refine git (K:=tX ((gd q 4).rows.length+1) p q r) (fun l=>aw (gd l 15) (gd l 16)=true/\(gd l 13).rows.length<=5) (ir (I:=fun k s=>s=sub s 0 27/\aw (gd s 15) (gd s 16)=true/\(gd s 14).int=(k:Int)/\(gd s 13).rows.length<=5/\gd s 22=gd q 4/\k<=(gd q 4).rows.length) (gd q 4).rows.length (fun k s Z=>?_) ((gd q 4).rows.length+1) 0 _ ⟨ar _,h,rfl,n5 _,rfl,n5 _⟩ (by omega) (n5 _)) fun l hl=>?_
 ·obtain⟨e,hc,hi,Y,J,hk⟩:=Z;have hw:w64 ((gd s 14).int+1)=((k+1:Nat):Int):=by rw[bD (by omega) (by omega)];omega
  have hin:(gd s 14).int<((gd s 22).rows.length:Int)->ah (gd s 14).int (gd s 22).rows.length=true:=fun O=>by rw[hi];exact bK (by omega)
  have M:(gd s 14).int<((gd s 22).rows.length:Int)->k<(gd q 4).rows.length:=fun O=>by rw[J] at O;omega
  refine grd e (geq (GP _ _ _ _ s) (bt (fun y=>gnd ?_ (bt (fun W=>bt (fun U=>gnd ?_ (bt (fun c4=>gnd ?_ (gnd ?_ (bc (.inl ⟨rfl,M (i7 y),ar _,?_,hw,?_,J,M (i7 y)⟩)))) (fun c4=>bc (.inl ⟨rfl,M (i7 y),ar _,?_,hw,?_,J,M (i7 y)⟩)))) (fun U=>bc (.inl ⟨rfl,M (i7 y),ar _,?_,hw,?_,J,M (i7 y)⟩))) (fun W=>bc (.inl ⟨rfl,M (i7 y),ar _,?_,hw,?_,J,M (i7 y)⟩)))) (fun y=>bc (.inr ⟨by decide,rfl,?_,?_⟩))))
  all_goals try replace U:=(i7 U:_<_)
  all_goals try replace y:=(i7 y:_<_)
  all_goals first
   | (simp (maxDischargeDepth:=30) only [bU,ch,cx,dg,eu,dN,bn,gj,aq,ap,Nat.reduceAdd,u5,dh,hc];done)
   | (simp only[aq,ap,bd,i6,n9,z8,aA,dh];omega)
   | omega
   | exact dQ (by omega)
   | exact hin y
   | exact rfl
   | skip
 ·obtain⟨hc,Y⟩:=hl;refine gnd ?_ (bt (fun y=>gnd ?_ (gnd ?_ (bc ⟨rfl,ar _,?_,?_⟩))) (fun y=>bc ⟨rfl,ar _,?_,?_⟩))
  all_goals try simp only[Out.pay,z6,dh]
  all_goals try replace y:=(i7 y:_<_)
  all_goals first
   | (simp (maxDischargeDepth:=30) only [bU,ch,cx,dg,XI,SY,bn,gj,aq,ap,Nat.reduceAdd,u5,dh,hc];done)
   | (simp only[aq,ap,bd,i6,n9,z8,aA,dh];omega)
   | omega
   | exact dQ (by omega)
   | skip
theorem uw{p:b8}{q:b8}{r:D}(h:(aw (gd p 0) (gd p 1)&&leI ((gd q 4).rows.length:Int) 1000000)=true):aw (gd (dv p q r) 1) (gd (dv p q r) 2)=true/\(gd (dv p q r) 4).rows.length<=200:=by unfold dv;exact (cH (rL p q [r] h)).2
theorem Hs(N:Nat)(p q r:b8):iJ N p q r=iJ N p q [gd r 0]:=by kernel_rfl
def oR:Ent:=(170,e3 (.tup [.agg f4]) (ag aR) ri fun p q r=>(⟨.tup [.agg [.any],.agg f4,.c (.own (0,0) true 41)],dv p q (gd r 0)⟩,aw (gd p 0) (gd p 1)&&leI ((gd q 4).rows.length:Int) 1000000))
theorem rK:ay f8 oR:=gW fun p q r h=>cN (N:=(gd q 4).rows.length+1) (ks:=oT) (key:=bo) (al (fC ⟨gz,fC ⟨gL,fC ⟨tO,fN⟩⟩⟩)) (cB Tryz.func170) Tryz.func170 fun hw y=>by rw[ES];exact congrArg (fun x=>some (bo,x)) (((Hs _ p q r).trans (cH (rL p q [gd r 0] h)).1).trans (by unfold dv;exact rfl))
abbrev FF:=find [iK,ip,dI]
abbrev Ew:=[0,2,4]
def iP(p:b8):b8:=aa (sub (af (sub p 0 3) (.i 25)) 1 3) (.i 10)
def iL(p:b8):b8:=bZ (sub (af (sub p 0 3) (.i 25)) 1 3) (.l [[.i 0],[.i 60],[.i 61]])
def pL(N:Nat)(p:b8):Out:=
 nd (aw (gd p 0) (gd p 1)) (bif (gd (af (sub p 0 3) (.i 25)) 4).bool then nd (aw (gd (af (sub p 0 3) (.i 25)) 1) (gd (af (sub p 0 3) (.i 25)) 2)&&xA (.l [[.i 0],[.i 60],[.i 61]])) (some (1,[.i 0,gd (iL p) 1,gd (iL p) 2,gd (iL p) 3,gd (iL p) 4]))
 else nd (aw (gd (af (sub p 0 3) (.i 25)) 1) (gd (af (sub p 0 3) (.i 25)) 2)) (some (1,[.i 0,gd (iP p) 1,gd (iP p) 2,gd (iP p) 3,.i (w64 (1+(gd (iP p) 4).int))])))
theorem Mq(N:Nat)(p:b8):jT f8 FF N Ew Tryz.f169 (.tup [.agg [.any],.agg f4,.c (.d si)]) [⟨.tup [.agg f4],p⟩]=some (bo,pL N p):=by kernel_rfl
@[irreducible] def cE(p:b8):b8:=sub (pL (0) p).pay 0 5
theorem yy(p:b8)(h:(aw (gd p 0) (gd p 1))=true):GG (fun c l=>c=1/\l=sub l 0 5/\(aw (gd l 1) (gd l 2)=true)) (pL (0) p):=by
 unfold pL;refine gnd ?_ (bt (fun y=>gnd ?_ (bc ⟨rfl,ar _,?_⟩)) (fun y=>gnd ?_ (bc ⟨rfl,ar _,?_⟩)))
 all_goals try replace y:=(i7 y:_<_)
 all_goals first
  | (simp (maxDischargeDepth:=30) only [bU,ch,cx,dg,eu,dN,bn,gj,aq,ap,Nat.reduceAdd,u5,iP,iL,h];done)
  | (simp only[aq,ap,bd,i6,n9,z8,aA,iP,iL];omega)
  | omega
  | exact dQ (by omega)
  | skip
theorem QO{p:b8}(h:(aw (gd p 0) (gd p 1))=true):aw (gd (cE p) 1) (gd (cE p) 2)=true:=by unfold cE;exact (cH (yy p h)).2
theorem ali{X:b8}{a:Nat}(h:aw (gd X a) (gd X (a+1))=true):aw (gd (cE (sub X a 3)) 1) (gd (cE (sub X a 3)) 2)=true:=QO (p:=sub X a 3) h
def EA:Ent:=(169,e1 (.tup [.agg f4]) fun p=>(⟨.tup [.agg [.any],.agg f4,.c (.d si)],cE p⟩,aw (gd p 0) (gd p 1)))
theorem OQ:ay f8 EA:=cK fun p h=>cN (N:=0) (ks:=Ew) (key:=bo) (al (fC ⟨gz,fC ⟨hD,fC ⟨cZ,fN⟩⟩⟩)) (cB Tryz.func169) Tryz.func169 fun hw y=>by rw[Mq];exact congrArg (fun x=>some (bo,x)) ((cH (yy p h)).1.trans (by unfold cE;exact rfl))
abbrev Ta:=find []
theorem Th:av f8 Ta:=al (fN)
abbrev RW:=[0,1,4,5,12]
def uj(N:Nat)(p q:b8):Out:=
 nd (20 != 0) (bif ltI (gd q 0).int (w64 (2+(w64 (((gd p 0).rows.length:Int).tdiv 20)))) then some (1,[gd q 0])
 else oi (w64 (2+(w64 (((gd p 0).rows.length:Int).tdiv 20)))))
theorem XJ(N:Nat)(p q:b8):bf f8 Ta N RW Tryz.f135 ri [⟨sd (.sl 5),p⟩,⟨ri,q⟩]=some (bo,uj N p q):=by kernel_rfl
@[irreducible] def dM(p:D)(q:D):b8:=sub (uj (0) [p] [q]).pay 0 1
theorem JU(p q:b8)(h:(leI ((gd p 0).rows.length:Int) 1048576&&(leI 0 (gd q 0).int&&leI (gd q 0).int 100))=true):GG (fun c l=>c=1/\l=sub l 0 1/\(0<=(gd l 0).int/\(gd l 0).int<=100)) (uj (0) p q):=by
 simp only[a9] at h;obtain⟨h,y,J⟩:=h;have h:((gd p 0).rows.length:Int)<=1048576:=i7 h;have y:0<=(gd q 0).int:=i7 y;have J:(gd q 0).int<=100:=i7 J;have e:w64 (2+(w64 (((gd p 0).rows.length:Int).tdiv 20)))=2+((gd p 0).rows.length:Int) / 20:=by rw[Int.tdiv_eq_ediv_of_nonneg (by omega),bD (x:=((gd p 0).rows.length:Int) / 20) (by omega) (by omega),bD (by omega) (by omega)]
 refine gnd ?_ (bt (fun M=>bc ⟨rfl,ar _,?_,?_⟩) (fun M=>bc ⟨rfl,ar _,?_,?_⟩))
 all_goals try rfl
 ·exact y
 ·exact J
 ·show 0<=w64 (2+(w64 (((gd p 0).rows.length:Int).tdiv 20)));rw[e];omega
 ·have M:¬(gd q 0).int<w64 (2+(w64 (((gd p 0).rows.length:Int).tdiv 20))):=L5 M;show w64 (2+(w64 (((gd p 0).rows.length:Int).tdiv 20)))<=100;omega
theorem aav{p:D}{q:D}(h:(leI (p.rows.length:Int) 1048576&&(leI 0 q.int&&leI q.int 100))=true):0<=(gd (dM p q) 0).int/\(gd (dM p q) 0).int<=100:=by unfold dM;exact (cH (JU [p] [q] h)).2
theorem aau(N:Nat)(p q:b8):uj N p q=uj N [gd p 0] [gd q 0]:=by kernel_rfl
def RG:Ent:=(135,e2 (sd (.sl 5)) ri fun p q=>(⟨ri,[gd (dM (gd p 0) (gd q 0)) 0]⟩,leI ((gd p 0).rows.length:Int) 1048576&&(leI 0 (gd q 0).int&&leI (gd q 0).int 100)))
theorem Xj:ay f8 RG:=bm fun p q h=>au (N:=0) (ks:=RW) Th Tryz.func135 fun hw=>by rw[XJ];exact congrArg (fun x=>some (bo,x)) (((aau _ p q).trans (cH (JU [gd p 0] [gd q 0] h)).1).trans (by unfold dM;exact congrArg (fun z=>some (1,z)) (amC _)))
abbrev eP:=find [kU,ou,nX,fD,gw,nq,vW,oA,zA,CG,sH,vJ,CF,pV,zL,xq]
abbrev eQ:=[0,1,2,3,4,8,9,10,11,12,13,14,15,16,17,18,19,20,21,22,23,45,54,58,64,69,78,89,94,105,112,132,152,158,164,178,192,3000001,3000037,3000044,4000158]
def eE(N:Nat)(p q r s:b8):b8->Out:=bb f8 eP N eQ Tryz.f22 (.tup [.agg d9,.c (.d si)]) [⟨ag aR,p⟩,⟨ri,q⟩,⟨sd (.sl 41),r⟩,⟨sd (.sl 70),s⟩] 0
def fo(N:Nat)(p q r s:b8):b8->Out:=bb f8 eP N eQ Tryz.f22 (.tup [.agg d9,.c (.d si)]) [⟨ag aR,p⟩,⟨ri,q⟩,⟨sd (.sl 41),r⟩,⟨sd (.sl 70),s⟩] 3
def fw(N:Nat)(p q r s:b8):b8->Out:=bb f8 eP N eQ Tryz.f22 (.tup [.agg d9,.c (.d si)]) [⟨ag aR,p⟩,⟨ri,q⟩,⟨sd (.sl 41),r⟩,⟨sd (.sl 70),s⟩] 5
def fk(N:Nat)(p q r s:b8):b8->Out:=bb f8 eP N eQ Tryz.f22 (.tup [.agg d9,.c (.d si)]) [⟨ag aR,p⟩,⟨ri,q⟩,⟨sd (.sl 41),r⟩,⟨sd (.sl 70),s⟩] 7
def dK(N:Nat)(p q r s:b8):b8->Out:=bb f8 eP N eQ Tryz.f22 (.tup [.agg d9,.c (.d si)]) [⟨ag aR,p⟩,⟨ri,q⟩,⟨sd (.sl 41),r⟩,⟨sd (.sl 70),s⟩] 9
theorem lM(N:Nat)(p q r s:b8)(x0 x1 x2 x3 x4 x5 x6 x7 x8 x9 y U a4 b1 b4 V J b5 b0 O Z a7 a6 M b6 a5 a0 b3 a2 b2 a1 W a8 a3 Y:D):(eE N p q r s) [x0,x1,x2,x3,x4,x5,x6,x7,x8,x9,y,U,a4,b1,b4,V,J,b5,b0,O,Z,a7,a6,M,b6,a5,a0,b3,a2,b2,a1,W,a8,a3,Y] =
 bif V.bool then bif ltI J.int (y.rows.length:Int) then nd (ah J.int y.rows.length) (nx [x0,x1,x2,x3,x4,x5,x6,x7,x8,x9,y,U,a4,b1,b4,.b (ax (sub (y.rows.getD J.int.toNat []) 0 2)),.i (w64 (J.int+1)),b5,b0,O,Z,a7,a6,M,b6,a5,a0,b3,a2,b2,a1,W,a8,a3,Y])
 else ex 0 [x0,x1,x2,x3,x4,x5,x6,x7,x8,x9,y,U,a4,b1,b4,V,J,b5,b0,O,Z,a7,a6,M,b6,a5,a0,b3,a2,b2,a1,W,a8,a3,Y]
 else ex 0 [x0,x1,x2,x3,x4,x5,x6,x7,x8,x9,y,U,a4,b1,b4,V,J,b5,b0,O,Z,a7,a6,M,b6,a5,a0,b3,a2,b2,a1,W,a8,a3,Y]:=by kernel_rfl
theorem sy(N:Nat)(p q r s:b8)(x0 x1 x2 x3 x4 x5 x6 x7 x8 x9 J a4 b4 c4 c9 a5 c8 d1 c3 y a8 c0 b6 a3 a1 b5 b0 c6 b2 c5 b1 a6 c1 b3 a7 x35 c7 c2 Y M W a2 O Z a0 V U:D):(fo N p q r s) [x0,x1,x2,x3,x4,x5,x6,x7,x8,x9,J,a4,b4,c4,c9,a5,c8,d1,c3,y,a8,c0,b6,a3,a1,b5,b0,c6,b2,c5,b1,a6,c1,b3,a7,x35,c7,c2,Y,M,W,a2,O,Z,a0,V,U] =
 bif ltI y.int (J.rows.length:Int) then nd (ah y.int J.rows.length) (bif !(holds a1 x9 (sub (J.rows.getD y.int.toNat []) 0 2) (.i 1)) then some (1,[Y,M,W,a2,O,Z,a0,V,U,.i 7])
 else nx [x0,x1,x2,x3,x4,x5,x6,x7,x8,x9,J,a4,b4,c4,c9,a5,c8,d1,c3,.i (w64 (y.int+1)),a8,c0,b6,a3,a1,b5,b0,c6,b2,c5,b1,a6,c1,b3,a7,x35,c7,c2,Y,M,W,a2,O,Z,a0,V,U])
 else ex 3 [x0,x1,x2,x3,x4,x5,x6,x7,x8,x9,J,a4,b4,c4,c9,a5,c8,d1,c3,y,a8,c0,b6,a3,a1,b5,b0,c6,b2,c5,b1,a6,c1,b3,a7,x35,c7,c2,Y,M,W,a2,O,Z,a0,V,U]:=by kernel_rfl
theorem rG(N:Nat)(p q r s:b8)(x0 x1 x2 x3 x4 x5 x6 x7 x8 x9 c7 y c1 c5 d1 b3 c9 d2 c4 b2 J a3 a2 M b0 a1 Y a6 a0 a4 b6 b4 c2 c0 b5 x35 c8 c3 c6 O a5 b1 U a7 a8 W V Z:D):(fw N p q r s) [x0,x1,x2,x3,x4,x5,x6,x7,x8,x9,c7,y,c1,c5,d1,b3,c9,d2,c4,b2,J,a3,a2,M,b0,a1,Y,a6,a0,a4,b6,b4,c2,c0,b5,x35,c8,c3,c6,O,a5,b1,U,a7,a8,W,V,Z] =
 bif ltI J.int (y.rows.length:Int) then nd (ah J.int y.rows.length) (bif !(tU [a3,a2,M,b0,a1,Y,a6,a0,a4] [(gd (y.rows.getD J.int.toNat []) 0),.i (w64 ((gd (y.rows.getD J.int.toNat []) 0).int+1))]) then some (1,[O,a5,b1,U,a7,a8,W,V,Z,.i 4])
 else nx [x0,x1,x2,x3,x4,x5,x6,x7,x8,x9,c7,y,c1,c5,d1,b3,c9,d2,c4,b2,.i (w64 (J.int+1)),a3,a2,M,b0,a1,Y,a6,a0,a4,b6,b4,c2,c0,b5,x35,c8,c3,c6,O,a5,b1,U,a7,a8,W,V,Z])
 else ex 5 [x0,x1,x2,x3,x4,x5,x6,x7,x8,x9,c7,y,c1,c5,d1,b3,c9,d2,c4,b2,J,a3,a2,M,b0,a1,Y,a6,a0,a4,b6,b4,c2,c0,b5,x35,c8,c3,c6,O,a5,b1,U,a7,a8,W,V,Z]:=by kernel_rfl
theorem sx(N:Nat)(p q r s:b8)(x0 x1 x2 x3 x4 x5 x6 x7 x8 U e8 y d7 c2 f0 b4 e9 c8 e7 d3 d4 c1 J d1 c9 d8 c0 c6 M c3 d5 b5 e0 d6 b6 x35 c7 e6 c5 d2 c4 b3 a4 a8 b0 a7 a6 a5 b2 b1 a2 Z a3 a1 O W V a0 Y:D):(fk N p q r s) [x0,x1,x2,x3,x4,x5,x6,x7,x8,U,e8,y,d7,c2,f0,b4,e9,c8,e7,d3,d4,c1,J,d1,c9,d8,c0,c6,M,c3,d5,b5,e0,d6,b6,x35,c7,e6,c5,d2,c4,b3,a4,a8,b0,a7,a6,a5,b2,b1,a2,Z,a3,a1,O,W,V,a0,Y] =
 bif ltI J.int (y.rows.length:Int) then nd (ah J.int y.rows.length) (nd (leI (M.rows.length:Int) 1000000000) (bif (gd (sub (ed O (aF M) U [(gd (y.rows.getD J.int.toNat []) 0),.i (w64 ((gd (y.rows.getD J.int.toNat []) 0).int+1))] (.i 2)) 0 3) 2).int != 0 then some (1,[b3,a4,a8,b0,a7,a6,a5,b2,b1,.i (eT [(gd (sub (ed O (aF M) U [(gd (y.rows.getD J.int.toNat []) 0),.i (w64 ((gd (y.rows.getD J.int.toNat []) 0).int+1))] (.i 2)) 0 3) 2)])])
 else nd (leI ((gd (sub (ed O (aF M) U [(gd (y.rows.getD J.int.toNat []) 0),.i (w64 ((gd (y.rows.getD J.int.toNat []) 0).int+1))] (.i 2)) 0 3) 0).rows.length:Int) 100000000&&(leI (V.rows.length:Int) 100000000&&leI ((gd (sub (ed O (aF M) U [(gd (y.rows.getD J.int.toNat []) 0),.i (w64 ((gd (y.rows.getD J.int.toNat []) 0).int+1))] (.i 2)) 0 3) 1).rows.length:Int) 100000000)) (nx [x0,x1,x2,x3,x4,x5,x6,x7,x8,U,e8,y,d7,c2,f0,b4,e9,c8,e7,d3,d4,c1,.i (w64 (J.int+1)),d1,c9,d8,c0,c6,M,c3,d5,b5,e0,d6,b6,x35,c7,e6,c5,d2,c4,b3,a4,a8,b0,a7,a6,a5,b2,b1,gd (sub (fA [a2,Z,a3,a1,gd (sub (ed O (aF M) U [(gd (y.rows.getD J.int.toNat []) 0),.i (w64 ((gd (y.rows.getD J.int.toNat []) 0).int+1))] (.i 2)) 0 3) 0,W,V,a0,Y] (gd (sub (ed O (aF M) U [(gd (y.rows.getD J.int.toNat []) 0),.i (w64 ((gd (y.rows.getD J.int.toNat []) 0).int+1))] (.i 2)) 0 3) 1)) 0 9) 0,gd (sub (fA [a2,Z,a3,a1,gd (sub (ed O (aF M) U [(gd (y.rows.getD J.int.toNat []) 0),.i (w64 ((gd (y.rows.getD J.int.toNat []) 0).int+1))] (.i 2)) 0 3) 0,W,V,a0,Y] (gd (sub (ed O (aF M) U [(gd (y.rows.getD J.int.toNat []) 0),.i (w64 ((gd (y.rows.getD J.int.toNat []) 0).int+1))] (.i 2)) 0 3) 1)) 0 9) 1,gd (sub (fA [a2,Z,a3,a1,gd (sub (ed O (aF M) U [(gd (y.rows.getD J.int.toNat []) 0),.i (w64 ((gd (y.rows.getD J.int.toNat []) 0).int+1))] (.i 2)) 0 3) 0,W,V,a0,Y] (gd (sub (ed O (aF M) U [(gd (y.rows.getD J.int.toNat []) 0),.i (w64 ((gd (y.rows.getD J.int.toNat []) 0).int+1))] (.i 2)) 0 3) 1)) 0 9) 2,gd (sub (fA [a2,Z,a3,a1,gd (sub (ed O (aF M) U [(gd (y.rows.getD J.int.toNat []) 0),.i (w64 ((gd (y.rows.getD J.int.toNat []) 0).int+1))] (.i 2)) 0 3) 0,W,V,a0,Y] (gd (sub (ed O (aF M) U [(gd (y.rows.getD J.int.toNat []) 0),.i (w64 ((gd (y.rows.getD J.int.toNat []) 0).int+1))] (.i 2)) 0 3) 1)) 0 9) 3,gd (sub (fA [a2,Z,a3,a1,gd (sub (ed O (aF M) U [(gd (y.rows.getD J.int.toNat []) 0),.i (w64 ((gd (y.rows.getD J.int.toNat []) 0).int+1))] (.i 2)) 0 3) 0,W,V,a0,Y] (gd (sub (ed O (aF M) U [(gd (y.rows.getD J.int.toNat []) 0),.i (w64 ((gd (y.rows.getD J.int.toNat []) 0).int+1))] (.i 2)) 0 3) 1)) 0 9) 4,W,gd (sub (fA [a2,Z,a3,a1,gd (sub (ed O (aF M) U [(gd (y.rows.getD J.int.toNat []) 0),.i (w64 ((gd (y.rows.getD J.int.toNat []) 0).int+1))] (.i 2)) 0 3) 0,W,V,a0,Y] (gd (sub (ed O (aF M) U [(gd (y.rows.getD J.int.toNat []) 0),.i (w64 ((gd (y.rows.getD J.int.toNat []) 0).int+1))] (.i 2)) 0 3) 1)) 0 9) 6,gd (sub (fA [a2,Z,a3,a1,gd (sub (ed O (aF M) U [(gd (y.rows.getD J.int.toNat []) 0),.i (w64 ((gd (y.rows.getD J.int.toNat []) 0).int+1))] (.i 2)) 0 3) 0,W,V,a0,Y] (gd (sub (ed O (aF M) U [(gd (y.rows.getD J.int.toNat []) 0),.i (w64 ((gd (y.rows.getD J.int.toNat []) 0).int+1))] (.i 2)) 0 3) 1)) 0 9) 7,gd (sub (fA [a2,Z,a3,a1,gd (sub (ed O (aF M) U [(gd (y.rows.getD J.int.toNat []) 0),.i (w64 ((gd (y.rows.getD J.int.toNat []) 0).int+1))] (.i 2)) 0 3) 0,W,V,a0,Y] (gd (sub (ed O (aF M) U [(gd (y.rows.getD J.int.toNat []) 0),.i (w64 ((gd (y.rows.getD J.int.toNat []) 0).int+1))] (.i 2)) 0 3) 1)) 0 9) 8])))
 else ex 7 [x0,x1,x2,x3,x4,x5,x6,x7,x8,U,e8,y,d7,c2,f0,b4,e9,c8,e7,d3,d4,c1,J,d1,c9,d8,c0,c6,M,c3,d5,b5,e0,d6,b6,x35,c7,e6,c5,d2,c4,b3,a4,a8,b0,a7,a6,a5,b2,b1,a2,Z,a3,a1,O,W,V,a0,Y]:=by kernel_rfl
theorem rW(N:Nat)(p q r s:b8)(x0 x1 x2 x3 x4 x5 x6 x7 x8 x9 f0 c8 d7 b4 g1 a1 f2 c4 e8 c7 d3 b2 e0 c5 M d8 a7 c1 J b5 d4 a3 e6 d6 a5 x35 c3 e7 c0 c6 b6 h0 Y e9 f1 d1 c9 a8 g3 f3 c2 a0 d2 b0 b1 d5 a2 a6 V a4 b3 x61 g2 W Z U O:D):(dK N p q r s) [x0,x1,x2,x3,x4,x5,x6,x7,x8,x9,f0,c8,d7,b4,g1,a1,f2,c4,e8,c7,d3,b2,e0,c5,M,d8,a7,c1,J,b5,d4,a3,e6,d6,a5,x35,c3,e7,c0,c6,b6,h0,Y,e9,f1,d1,c9,a8,g3,f3,c2,a0,d2,b0,b1,d5,a2,a6,V,a4,b3,x61,g2,W,Z,U,O] =
 bif ltI J.int (x61.rows.length:Int) then bif !d8.bool then nd (ah J.int x61.rows.length) (bif ltI x9.int (gd (x61.rows.getD J.int.toNat []) 0).int then nd (bl (M.rows ++ [[U,O]])&&true) ((let y:Out:=(nx [x0,x1,x2,x3,x4,x5,x6,x7,x8,x9,f0,c8,d7,b4,g1,a1,f2,c4,e8,c7,d3,b2,e0,c5,.l (M.rows ++ [[U,O]]),.b true,a7,c1,J,.b (ltI J.int (x61.rows.length:Int)),.b (ltI x9.int (gd (x61.rows.getD J.int.toNat []) 0).int),b5,d4,a3,e6,d6,a5,x35,c3,e7,c0,c6,b6,h0,Y,e9,f1,d1,c9,a8,g3,f3,c2,a0,d2,b0,b1,d5,a2,a6,V,a4,b3,x61,g2,W,Z,U,O]);
  nd y.isSome (nd (ah (gd y.pay 28).int (gd y.pay 63).rows.length) (nd (bl ((gd y.pay 24).rows ++ [sub ((gd y.pay 63).rows.getD (gd y.pay 28).int.toNat []) 0 2])&&true) (nx [gd y.pay 0,gd y.pay 1,gd y.pay 2,gd y.pay 3,gd y.pay 4,gd y.pay 5,gd y.pay 6,gd y.pay 7,gd y.pay 8,gd y.pay 9,gd y.pay 10,gd y.pay 11,gd y.pay 12,gd y.pay 13,gd y.pay 14,gd y.pay 15,gd y.pay 16,gd y.pay 17,gd y.pay 18,gd y.pay 19,gd y.pay 20,gd y.pay 21,gd y.pay 22,gd y.pay 23,.l ((gd y.pay 24).rows ++ [sub ((gd y.pay 63).rows.getD (gd y.pay 28).int.toNat []) 0 2]),gd y.pay 25,gd y.pay 26,gd y.pay 27,.i (w64 ((gd y.pay 28).int+1)),gd y.pay 31,gd y.pay 32,gd y.pay 33,gd y.pay 34,gd y.pay 35,gd y.pay 36,gd y.pay 37,gd y.pay 38,gd y.pay 39,gd y.pay 40,gd y.pay 41,gd y.pay 42,gd y.pay 43,gd y.pay 44,gd y.pay 45,gd y.pay 46,gd y.pay 47,gd y.pay 48,gd y.pay 49,gd y.pay 50,gd y.pay 51,gd y.pay 52,gd y.pay 53,gd y.pay 54,gd y.pay 55,gd y.pay 56,gd y.pay 57,gd y.pay 58,gd y.pay 59,gd y.pay 60,gd y.pay 61,gd y.pay 62,gd y.pay 63,gd y.pay 64,gd y.pay 65,gd y.pay 66,gd y.pay 67,gd y.pay 68])))))
 else nd (ah J.int x61.rows.length) (nd (bl (M.rows ++ [sub (x61.rows.getD J.int.toNat []) 0 2])&&true) (nx [x0,x1,x2,x3,x4,x5,x6,x7,x8,x9,f0,c8,d7,b4,g1,a1,f2,c4,e8,c7,d3,b2,e0,c5,.l (M.rows ++ [sub (x61.rows.getD J.int.toNat []) 0 2]),d8,a7,c1,.i (w64 (J.int+1)),b5,d4,a3,e6,d6,a5,x35,c3,e7,c0,c6,b6,h0,Y,e9,f1,d1,c9,a8,g3,f3,c2,a0,d2,b0,b1,d5,a2,a6,V,a4,b3,x61,g2,W,Z,U,O])))
 else nd (ah J.int x61.rows.length) (nd (bl (M.rows ++ [sub (x61.rows.getD J.int.toNat []) 0 2])&&true) (nx [x0,x1,x2,x3,x4,x5,x6,x7,x8,x9,f0,c8,d7,b4,g1,a1,f2,c4,e8,c7,d3,b2,e0,c5,.l (M.rows ++ [sub (x61.rows.getD J.int.toNat []) 0 2]),d8,a7,c1,.i (w64 (J.int+1)),b5,d4,a3,e6,d6,a5,x35,c3,e7,c0,c6,b6,h0,Y,e9,f1,d1,c9,a8,g3,f3,c2,a0,d2,b0,b1,d5,a2,a6,V,a4,b3,x61,g2,W,Z,U,O]))
 else ex 9 [x0,x1,x2,x3,x4,x5,x6,x7,x8,x9,f0,c8,d7,b4,g1,a1,f2,c4,e8,c7,d3,b2,e0,c5,M,d8,a7,c1,J,b5,d4,a3,e6,d6,a5,x35,c3,e7,c0,c6,b6,h0,Y,e9,f1,d1,c9,a8,g3,f3,c2,a0,d2,b0,b1,d5,a2,a6,V,a4,b3,x61,g2,W,Z,U,O]:=by kernel_rfl
def sr(N:Nat)(p q r s:b8):Out:=bif leI ((gd r 0).rows.length:Int) 16 then nx [gd p 0,gd p 1,gd p 2,gd p 3,gd p 4,gd p 5,gd p 6,gd p 7,gd p 8,gd q 0,gd r 0,gd s 0,.i 0,.i 0,.i 0,.b (aL (gd s 0)),gd p 0,gd p 1,gd p 2,gd p 3,gd p 4,gd p 5,gd p 6,gd p 7,gd p 8,.i 0,.l [],.l [],.l [],.l [],.l [],.l [],.l [],.i 0] else nx [gd p 0,gd p 1,gd p 2,gd p 3,gd p 4,gd p 5,gd p 6,gd p 7,gd p 8,gd q 0,gd r 0,gd s 0,.i 0,.i 0,.i 0,.b false,gd p 0,gd p 1,gd p 2,gd p 3,gd p 4,gd p 5,gd p 6,gd p 7,gd p 8,.i 0,.l [],.l [],.l [],.l [],.l [],.l [],.l [],.i 0]
def rH(N:Nat)(p q r s:b8):Out:=bif inB (gd q 0).int 1 60 then (sr N p q r s) else nx [gd p 0,gd p 1,gd p 2,gd p 3,gd p 4,gd p 5,gd p 6,gd p 7,gd p 8,gd q 0,gd r 0,gd s 0,.i 0,.i 0,.i 0,.b false,gd p 0,gd p 1,gd p 2,gd p 3,gd p 4,gd p 5,gd p 6,gd p 7,gd p 8,.i 0,.l [],.l [],.l [],.l [],.l [],.l [],.l [],.i 0]
def gB(N:Nat)(p q r s:b8):Out:=bif aW (sub p 0 9) then (rH N p q r s) else nx [gd p 0,gd p 1,gd p 2,gd p 3,gd p 4,gd p 5,gd p 6,gd p 7,gd p 8,gd q 0,gd r 0,gd s 0,.i 0,.i 0,.i 0,.b false,gd p 0,gd p 1,gd p 2,gd p 3,gd p 4,gd p 5,gd p 6,gd p 7,gd p 8,.i 0,.l [],.l [],.l [],.l [],.l [],.l [],.l [],.i 0]
def FT(N:Nat)(p q r s:b8)(y:Out):Out:=nd (bl ((gd y.pay 24).rows ++ [sub y.pay 65 2])&&true) (some (1,[gd y.pay 56,gd y.pay 57,gd y.pay 58,gd y.pay 59,gd y.pay 60,.l ((gd y.pay 24).rows ++ [sub y.pay 65 2]),gd y.pay 62,gd y.pay 63,gd y.pay 64,.i 0]))
def jc(N:Nat)(p q r s:b8)(y:Out):Out:=bif !(gd y.pay 25).bool then (FT N p q r s y) else some (1,[gd y.pay 56,gd y.pay 57,gd y.pay 58,gd y.pay 59,gd y.pay 60,gd y.pay 24,gd y.pay 62,gd y.pay 63,gd y.pay 64,.i 0])
def Ey(N:Nat)(p q r s:b8)(y:Out):Out:=let J:Out:=aX (dK N p q r s) N [gd y.pay 0,gd y.pay 1,gd y.pay 2,gd y.pay 3,gd y.pay 4,gd y.pay 5,gd y.pay 6,gd y.pay 7,gd y.pay 8,gd y.pay 9,gd y.pay 10,gd y.pay 11,gd y.pay 12,gd y.pay 13,gd y.pay 14,gd y.pay 15,gd y.pay 16,gd y.pay 17,gd y.pay 18,gd y.pay 19,gd y.pay 20,gd y.pay 21,gd y.pay 22,gd y.pay 23,gd y.pay 24,gd y.pay 25,.l ([]++(gd y.pay 11).rows),.i 0,.i 0,gd y.pay 26,gd y.pay 27,gd y.pay 28,gd y.pay 29,gd y.pay 30,gd y.pay 31,gd y.pay 32,gd y.pay 33,gd y.pay 34,gd y.pay 35,gd y.pay 36,gd y.pay 37,gd y.pay 38,gd y.pay 39,gd y.pay 40,gd y.pay 41,gd y.pay 42,gd y.pay 43,gd y.pay 44,gd y.pay 45,gd y.pay 46,gd y.pay 47,gd y.pay 48,gd y.pay 49,gd y.pay 50,gd y.pay 51,gd y.pay 52,gd y.pay 53,gd y.pay 54,gd y.pay 55,gd y.pay 56,gd y.pay 57,gd y.pay 58,gd y.pay 59,gd y.pay 60,gd y.pay 61,gd y.pay 9,.l ([]++(gd y.pay 11).rows)];nd J.isSome (nd (J.code==11) (jc N p q r s J))
def Ff(N:Nat)(p q r s:b8)(y:Out):Out:=let J:Out:=nx [gd y.pay 0,gd y.pay 1,gd y.pay 2,gd y.pay 3,gd y.pay 4,gd y.pay 5,gd y.pay 6,gd y.pay 7,gd y.pay 8,gd y.pay 9,gd y.pay 10,gd y.pay 11,gd y.pay 12,gd y.pay 13,gd y.pay 14,gd y.pay 15,gd y.pay 16,gd y.pay 17,gd y.pay 18,gd y.pay 19,gd y.pay 20,gd y.pay 21,gd y.pay 22,.b (ltI 60 (w64 ((w64 (((gd y.pay 26).rows.length:Int)+(eI (gd y.pay 26) (gd y.pay 28) (gd y.pay 28).rows.length)))+(bk (gd y.pay 26) (gd y.pay 11))))),.l [],.b false,gd y.pay 23,gd y.pay 24,gd y.pay 25,gd y.pay 26,gd y.pay 27,gd y.pay 28,gd y.pay 29,gd y.pay 30,gd y.pay 31,gd y.pay 32,gd y.pay 33,gd y.pay 34,gd y.pay 35,gd y.pay 36,gd y.pay 37,gd y.pay 38,gd y.pay 39,gd y.pay 40,gd y.pay 41,gd y.pay 42,gd y.pay 43,gd y.pay 44,gd y.pay 45,gd y.pay 46,gd y.pay 47,gd y.pay 48,gd y.pay 49,gd y.pay 50,gd y.pay 51,gd y.pay 52,gd y.pay 53,gd y.pay 54,gd y.pay 55,gd y.pay 56,gd y.pay 57,gd y.pay 58];nd J.isSome (nd (bl ([]++(gd J.pay 11).rows)&&true) (Ey N p q r s J))
def DQ(N:Nat)(p q r s:b8)(y:Out):Out:=bif ltI 60 (w64 ((w64 (((gd y.pay 26).rows.length:Int)+(eI (gd y.pay 26) (gd y.pay 28) (gd y.pay 28).rows.length)))+(bk (gd y.pay 26) (gd y.pay 11)))) then some (1,[gd y.pay 41,gd y.pay 42,gd y.pay 43,gd y.pay 44,gd y.pay 45,gd y.pay 46,gd y.pay 47,gd y.pay 48,gd y.pay 49,.i 6]) else (Ff N p q r s y)
def iZ(N:Nat)(p q r s:b8)(y:Out):Out:=nd (y.code==9) (nd (leI ((gd y.pay 28).rows.length:Int) 1000000000) (DQ N p q r s y))
def Eh(N:Nat)(p q r s:b8)(y:Out):Out:=let J:Out:=aX (fk N p q r s) N [gd y.pay 0,gd y.pay 1,gd y.pay 2,gd y.pay 3,gd y.pay 4,gd y.pay 5,gd y.pay 6,gd y.pay 7,gd y.pay 8,gd y.pay 9,gd y.pay 10,gd y.pay 11,gd y.pay 12,gd y.pay 13,gd y.pay 14,gd y.pay 15,gd y.pay 16,gd y.pay 17,gd y.pay 18,gd y.pay 19,gd y.pay 20,.i 0,.i 0,gd y.pay 21,gd y.pay 22,gd y.pay 23,gd y.pay 24,gd y.pay 25,gd y.pay 26,gd y.pay 27,gd y.pay 28,gd y.pay 29,gd y.pay 30,gd y.pay 31,gd y.pay 32,gd y.pay 33,gd y.pay 34,gd y.pay 35,gd y.pay 36,gd y.pay 37,gd y.pay 38,gd y.pay 39,gd y.pay 40,gd y.pay 41,gd y.pay 42,gd y.pay 43,gd y.pay 44,gd y.pay 45,gd y.pay 46,gd y.pay 47,gd (ddS (sub y.pay 21 9)) 0,gd (ddS (sub y.pay 21 9)) 1,gd (ddS (sub y.pay 21 9)) 2,gd (ddS (sub y.pay 21 9)) 3,gd (ddS (sub y.pay 21 9)) 4,gd (ddS (sub y.pay 21 9)) 5,gd (ddS (sub y.pay 21 9)) 6,gd (ddS (sub y.pay 21 9)) 7,gd (ddS (sub y.pay 21 9)) 8];nd J.isSome (bif J.code==1 then some (1,J.pay) else (iZ N p q r s J))
def iw(N:Nat)(p q r s:b8)(y:Out):Out:=bif y.code==1 then some (1,y.pay) else nd (y.code==7) (nd (dY (sub y.pay 21 9)) (Eh N p q r s y))
def kI(N:Nat)(p q r s:b8)(y:Out):Out:=let J:Out:=aX (fw N p q r s) N [gd y.pay 0,gd y.pay 1,gd y.pay 2,gd y.pay 3,gd y.pay 4,gd y.pay 5,gd y.pay 6,gd y.pay 7,gd y.pay 8,gd y.pay 9,gd y.pay 10,gd y.pay 11,gd y.pay 12,gd y.pay 13,gd y.pay 14,gd y.pay 15,gd y.pay 16,gd y.pay 17,gd y.pay 18,gd y.pay 19,.i 0,gd y.pay 20,gd y.pay 21,gd y.pay 22,gd y.pay 23,gd y.pay 24,gd y.pay 25,gd y.pay 26,gd y.pay 27,gd y.pay 28,gd y.pay 29,gd y.pay 30,gd y.pay 31,gd y.pay 32,gd y.pay 33,gd y.pay 34,gd y.pay 35,gd y.pay 36,gd y.pay 37,gd y.pay 38,gd y.pay 39,gd y.pay 40,gd y.pay 41,gd y.pay 42,gd y.pay 43,gd y.pay 44,gd y.pay 45,gd y.pay 46];nd J.isSome (iw N p q r s J)
def kL(N:Nat)(p q r s:b8)(y:Out):Out:=nd y.isSome (bif y.code==1 then some (1,y.pay) else nd (y.code==5) (kI N p q r s y))
def kS(N:Nat)(p q r s:b8)(y:Out):Out:=let J:Out:=aX (fo N p q r s) N [gd y.pay 0,gd y.pay 1,gd y.pay 2,gd y.pay 3,gd y.pay 4,gd y.pay 5,gd y.pay 6,gd y.pay 7,gd y.pay 8,gd y.pay 9,gd y.pay 10,gd y.pay 11,gd y.pay 12,gd y.pay 13,gd y.pay 14,gd y.pay 15,gd y.pay 16,.b (!(gd y.pay 15).bool),.i 0,.i 0,gd y.pay 17,gd y.pay 18,gd y.pay 19,gd y.pay 20,gd y.pay 21,gd y.pay 22,gd y.pay 23,gd y.pay 24,gd y.pay 25,gd y.pay 26,gd y.pay 27,gd y.pay 28,gd y.pay 29,gd y.pay 30,gd y.pay 31,gd y.pay 32,gd y.pay 33,gd y.pay 34,gd (ddS (sub y.pay 17 9)) 0,gd (ddS (sub y.pay 17 9)) 1,gd (ddS (sub y.pay 17 9)) 2,gd (ddS (sub y.pay 17 9)) 3,gd (ddS (sub y.pay 17 9)) 4,gd (ddS (sub y.pay 17 9)) 5,gd (ddS (sub y.pay 17 9)) 6,gd (ddS (sub y.pay 17 9)) 7,gd (ddS (sub y.pay 17 9)) 8];(kL N p q r s J)
def BF(N:Nat)(p q r s:b8)(y:Out):Out:=bif aC (gd y.pay 23) (gd y.pay 9).int then some (1,[gd (ddS (sub y.pay 17 9)) 0,gd (ddS (sub y.pay 17 9)) 1,gd (ddS (sub y.pay 17 9)) 2,gd (ddS (sub y.pay 17 9)) 3,gd (ddS (sub y.pay 17 9)) 4,gd (ddS (sub y.pay 17 9)) 5,gd (ddS (sub y.pay 17 9)) 6,gd (ddS (sub y.pay 17 9)) 7,gd (ddS (sub y.pay 17 9)) 8,.i 3]) else (kS N p q r s y)
def Da(N:Nat)(p q r s:b8)(y:Out):Out:=bif ii (gd y.pay 22) (gd y.pay 9).int then some (1,[gd (ddS (sub y.pay 17 9)) 0,gd (ddS (sub y.pay 17 9)) 1,gd (ddS (sub y.pay 17 9)) 2,gd (ddS (sub y.pay 17 9)) 3,gd (ddS (sub y.pay 17 9)) 4,gd (ddS (sub y.pay 17 9)) 5,gd (ddS (sub y.pay 17 9)) 6,gd (ddS (sub y.pay 17 9)) 7,gd (ddS (sub y.pay 17 9)) 8,.i 0]) else (BF N p q r s y)
def BU(N:Nat)(p q r s:b8)(y:Out):Out:=bif aC (gd y.pay 24) (gd y.pay 9).int then some (1,[gd (ddS (sub y.pay 17 9)) 0,gd (ddS (sub y.pay 17 9)) 1,gd (ddS (sub y.pay 17 9)) 2,gd (ddS (sub y.pay 17 9)) 3,gd (ddS (sub y.pay 17 9)) 4,gd (ddS (sub y.pay 17 9)) 5,gd (ddS (sub y.pay 17 9)) 6,gd (ddS (sub y.pay 17 9)) 7,gd (ddS (sub y.pay 17 9)) 8,.i 2]) else nd (leI ((gd y.pay 22).rows.length:Int) 1000000000) (Da N p q r s y)
def iv(N:Nat)(p q r s:b8)(y:Out):Out:=bif !(gd y.pay 15).bool then some (1,[.i 0,.l [],.l [],.l [],.l [],.l [],.l [],.l [],.i 0,.i 1]) else nd (dY (sub y.pay 17 9)) (BU N p q r s y)
def kQ(N:Nat)(p q r s:b8)(y:Out):Out:=let J:Out:=aX (eE N p q r s) N [gd y.pay 0,gd y.pay 1,gd y.pay 2,gd y.pay 3,gd y.pay 4,gd y.pay 5,gd y.pay 6,gd y.pay 7,gd y.pay 8,gd y.pay 9,gd y.pay 10,gd y.pay 11,gd y.pay 12,gd y.pay 13,gd y.pay 14,gd y.pay 15,.i 0,gd y.pay 16,gd y.pay 17,gd y.pay 18,gd y.pay 19,gd y.pay 20,gd y.pay 21,gd y.pay 22,gd y.pay 23,gd y.pay 24,gd y.pay 25,gd y.pay 26,gd y.pay 27,gd y.pay 28,gd y.pay 29,gd y.pay 30,gd y.pay 31,gd y.pay 32,gd y.pay 33];nd J.isSome (nd (J.code==2) (iv N p q r s J))
theorem By(N:Nat)(p q r s:b8):bf f8 eP N eQ Tryz.f22 (.tup [.agg d9,.c (.d si)]) [⟨ag aR,p⟩,⟨ri,q⟩,⟨sd (.sl 41),r⟩,⟨sd (.sl 70),s⟩]=some (bo,let y:Out:=(gB N p q r s);nd y.isSome (kQ N p q r s y)):=by kernel_rfl
theorem anc(N:Nat)(p q r s:b8):gB N p q r s=nx (pyA p q r s (qq p (gd q 0) (gd r 0) (gd s 0))):=by unfold gB rH sr qq;cases aW (sub p 0 9) <;> cases inB (gd q 0).int 1 60 <;> cases leI ((gd r 0).rows.length:Int) 16 <;> rfl
theorem amA(N:Nat)(p q r s:b8)(b:Bool):kQ N p q r s (nx (pyA p q r s b))=(let y:=aX (eE N p q r s) N (py0 p q r s b (.i 0));nd y.isSome (nd (y.code==2) (iv N p q r s y))):=rfl
theorem amx(N:Nat)(p q r s:b8)(b:Bool)(i:D):iv N p q r s (some (2,py0 p q r s b i))=bif !b then some (1,sub (jI ++ [.i 1]) 0 10) else nd (dY (sub p 0 9)) (bif aC (gd p 7) (gd q 0).int then some (1,sub (dpS p ++ [.i 2]) 0 10) else nd (leI ((gd p 5).rows.length:Int) 1000000000) (bif ii (gd p 5) (gd q 0).int then some (1,sub (dpS p ++ [.i 0]) 0 10) else bif aC (gd p 6) (gd q 0).int then some (1,sub (dpS p ++ [.i 3]) 0 10) else kS N p q r s (some (2,py0 p q r s b i)))):=rfl
theorem amy(N:Nat)(p q r s:b8)(b:Bool)(i:D):kS N p q r s (some (2,py0 p q r s b i))=kL N p q r s (aX (fo N p q r s) N (py3 p q r s b i (.i 0))):=rfl
theorem amE(N:Nat)(p q r s:b8)(b:Bool)(i j:D):kL N p q r s (some (5,py3 p q r s b i j))=kI N p q r s (some (5,py3 p q r s b i j)):=rfl
theorem amJ(N:Nat)(p q r s:b8)(b:Bool)(i j:D):kI N p q r s (some (5,py3 p q r s b i j))=(let y:=aX (fw N p q r s) N (py5 p q r s b i j (.i 0));nd y.isSome (iw N p q r s y)):=rfl
theorem aml(N:Nat)(p q r s:b8)(b:Bool)(i j k:D):iw N p q r s (some (7,py5 p q r s b i j k))=nd (dY (sub p 0 9)) (let y:=aX (fk N p q r s) N (py7 p q r s b i j k (.i 0) (.l (gd p 4).rows) (.l (gd p 6).rows));nd y.isSome (bif y.code==1 then some (1,y.pay) else (iZ N p q r s y))):=rfl
theorem ane(N:Nat)(p q r s:b8)(b:Bool)(i j k m l w:D):iZ N p q r s (some (9,py7 p q r s b i j k m l w))=nd (leI ((gd p 5).rows.length:Int) 1000000000) (bif Kb p (gd s 0) then some (1,sub (dpS p ++ [.i 6]) 0 10) else nd (bl (gd s 0).rows&&true) (let y:=aX (dK N p q r s) N (py9 p q r s b i j k m l w [] false (.i 0));nd y.isSome (nd (y.code==11) (jc N p q r s y)))):=rfl
theorem anb(N:Nat)(p q r s:b8)(b:Bool)(i j k m l w:D)(h:List b8)(t:Bool)(c:D):jc N p q r s (some (11,py9 p q r s b i j k m l w h t c))=bif !t then nd (bl (h ++ [[gd q 0,.l (gd s 0).rows]])&&true) (some (1,[gd (dpS p) 0,gd (dpS p) 1,gd (dpS p) 2,gd (dpS p) 3,l,.l (h ++ [[gd q 0,.l (gd s 0).rows]]),w,gd (dpS p) 7,gd (dpS p) 8,.i 0])) else some (1,[gd (dpS p) 0,gd (dpS p) 1,gd (dpS p) 2,gd (dpS p) 3,l,.l h,w,gd (dpS p) 7,gd (dpS p) 8,.i 0]):=rfl
theorem amw{N:Nat}{p q r s:b8}{x0 x1 x2 x3 x4 x5 x6 x7 x8 M e7 c6 d5 b2 f2 Z f0 c2 e0 c5 d1 b0 d6 c3 a5 b6 b3 d2 a1 d7 d4 a3 x35 c1 d8 b5 c4 b4 g2 V e6 e8 c8 c7 a6 g1 f1 c0 Y c9 a7 a8 d3 a0 a4 O a2 b1 x61 f3 U W J y:D}(hN:x61.rows.length<N)(g3:x61.rows.length<=60) :
  aX (dK N p q r s) N [x0,x1,x2,x3,x4,x5,x6,x7,x8,M,e7,c6,d5,b2,f2,Z,f0,c2,e0,c5,d1,b0,d6,c3,.l [],.b false,a5,b6,.i 0,b3,d2,a1,d7,d4,a3,x35,c1,d8,b5,c4,b4,g2,V,e6,e8,c8,c7,a6,g1,f1,c0,Y,c9,a7,a8,d3,a0,a4,O,a2,b1,x61,f3,U,W,J,y]=some (11,[x0,x1,x2,x3,x4,x5,x6,x7,x8,M,e7,c6,d5,b2,f2,Z,f0,c2,e0,c5,d1,b0,d6,c3,.l (hS x61 M [J,y] x61.rows.length).1,.b (hS x61 M [J,y] x61.rows.length).2,a5,b6,.i (x61.rows.length:Int),b3,d2,a1,d7,d4,a3,x35,c1,d8,b5,c4,b4,g2,V,e6,e8,c8,c7,a6,g1,f1,c0,Y,c9,a7,a8,d3,a0,a4,O,a2,b1,x61,f3,U,W,J,y]):=by
 have e9:=cJ (L:=dK N p q r s) (st:=fun k => [x0,x1,x2,x3,x4,x5,x6,x7,x8,M,e7,c6,d5,b2,f2,Z,f0,c2,e0,c5,d1,b0,d6,c3,.l (hS x61 M [J,y] k).1,.b (hS x61 M [J,y] k).2,a5,b6,.i (k:Int),b3,d2,a1,d7,d4,a3,x35,c1,d8,b5,c4,b4,g2,V,e6,e8,c8,c7,a6,g1,f1,c0,Y,c9,a7,a8,d3,a0,a4,O,a2,b1,x61,f3,U,W,J,y]) x61.rows.length 9 (fun k hk=>by
  show dK N p q r s [x0,x1,x2,x3,x4,x5,x6,x7,x8,M,e7,c6,d5,b2,f2,Z,f0,c2,e0,c5,d1,b0,d6,c3,.l (hS x61 M [J,y] k).1,.b (hS x61 M [J,y] k).2,a5,b6,.i (k:Int),b3,d2,a1,d7,d4,a3,x35,c1,d8,b5,c4,b4,g2,V,e6,e8,c8,c7,a6,g1,f1,c0,Y,c9,a7,a8,d3,a0,a4,O,a2,b1,x61,f3,U,W,J,y]=_;rw[rW];have hs:=VF x61 M [J,y] k;rw[show hS x61 M [J,y] (k+1)=bif !(hS x61 M [J,y] k).2&&ltI M.int (gd (x61.rows.getD k []) 0).int then ((hS x61 M [J,y] k).1 ++ [[J,y]] ++ [sub (x61.rows.getD k []) 0 2],true) else ((hS x61 M [J,y] k).1 ++ [sub (x61.rows.getD k []) 0 2],(hS x61 M [J,y] k).2) from rfl];generalize hS x61 M [J,y] k=X at *;obtain⟨X1,X2⟩:=X;have hX:X1.length<=120:=by have hs:X1.length<=2*k:=hs;omega
  dsimp only[Out.pay,Option.getD_some,Option.isSome_some];simp only[aq,ap,aA,kK,bd,di hk,bu hk,aG hk (show x61.rows.length<=9223372036854775807 by omega),g8];cases X2 with
  | true =>simp only[n4,f9,A9,ci (show (X1 ++ [sub (x61.rows.getD k []) 0 2]).length<=4294967296 by simp;omega),E6,aU]
  | false =>
   cases ltI M.int (gd (x61.rows.getD k []) 0).int with
   | false =>simp only[A4,g6,f9,y7,ci (show (X1 ++ [sub (x61.rows.getD k []) 0 2]).length<=4294967296 by simp;omega),E6,aU]
   | true =>
    simp only[A4,g6,y7,ci (show (X1 ++ [[J,y]]).length<=4294967296 by simp;omega),ci (show (X1 ++ [[J,y]] ++ [sub (x61.rows.getD k []) 0 2]).length<=4294967296 by simp;omega),E6,aU,bu hk]) (by
  show dK N p q r s [x0,x1,x2,x3,x4,x5,x6,x7,x8,M,e7,c6,d5,b2,f2,Z,f0,c2,e0,c5,d1,b0,d6,c3,.l (hS x61 M [J,y] x61.rows.length).1,.b (hS x61 M [J,y] x61.rows.length).2,a5,b6,.i (x61.rows.length:Int),b3,d2,a1,d7,d4,a3,x35,c1,d8,b5,c4,b4,g2,V,e6,e8,c8,c7,a6,g1,f1,c0,Y,c9,a7,a8,d3,a0,a4,O,a2,b1,x61,f3,U,W,J,y]=_;rw[rW];simp only[aA,ca]) (N:=N) hN
 simp only[j9] at e9;exact e9
set_option maxHeartbeats 4000000
def mG:Ent:=(22,e4 (ag aR) ri (sd (.sl 41)) (sd (.sl 70)) fun p q r s=>(⟨.tup [.agg d9,.c (.d si)],sub (prS p (gd q 0) (gd r 0) (gd s 0)) 0 10⟩,true))
theorem ql:ay f8 mG:=Bc fun p q r s h=>au (N:=(gd r 0).rows.length+(gd s 0).rows.length+(gd p 5).rows.length+2) (ks:=eQ) (al (fC ⟨jR,fC ⟨kD,fC ⟨nL,fC ⟨eA,fC ⟨fM,fC ⟨kY,fC ⟨vq,fC ⟨nD,fC ⟨xU,fC ⟨Fv,fC ⟨wo,fC ⟨vH,fC ⟨Fn,fC ⟨qB,fC ⟨yk,fC ⟨AS,fN⟩⟩⟩⟩⟩⟩⟩⟩⟩⟩⟩⟩⟩⟩⟩⟩)) Tryz.func22 fun hw=>by
 rw[By];refine congrArg (fun x=>some (bo,x)) ?_;have W:=fi (hw ⟨sd (.sl 41),r⟩ (by simp));have Y:=fi (hw ⟨sd (.sl 70),s⟩ (by simp));show nd (gB _ p q r s).isSome (kQ _ p q r s (gB _ p q r s))=_;rw[anc,show (nx (pyA p q r s (qq p (gd q 0) (gd r 0) (gd s 0))):Out).isSome=true from rfl,aU,amA];generalize hN:(gd r 0).rows.length+(gd s 0).rows.length+(gd p 5).rows.length+2=N;obtain⟨i,Z⟩:=aeN (L:=eE N p q r s) (st:=fun b k=>py0 p q r s b (.i (k:Int))) (gd r 0).rows.length (fun k=>ax (sub ((gd r 0).rows.getD k []) 0 2)) 0 (fun k hk=>by
  show eE _ p q r s [_,_,_,_,_,_,_,_,_,_,_,_,_,_,_,.b true,.i (k:Int),_,_,_,_,_,_,_,_,_,_,_,_,_,_,_,_,_,_]=_;rw[lM];simp only[aA,kK,g6,di hk,bu hk,aG hk W,g8]) (fun k=>by
  show eE _ p q r s [_,_,_,_,_,_,_,_,_,_,_,_,_,_,_,.b false,.i (k:Int),_,_,_,_,_,_,_,_,_,_,_,_,_,_,_,_,_,_]=_;rw[lM];rfl) (by
  show eE _ p q r s [_,_,_,_,_,_,_,_,_,_,_,_,_,_,_,.b true,.i ((gd r 0).rows.length:Int),_,_,_,_,_,_,_,_,_,_,_,_,_,_,_,_,_,_]=_;rw[lM];simp only[aA,kK,g6,ca]) (gd r 0).rows.length 0 N (qq p (gd q 0) (gd r 0) (gd s 0)) (m0 _) (by omega)
 simp only[j9] at Z;rw[<- List.range_eq_range'] at Z;rw[Z];show iv N p q r s (some (2,py0 p q r s (qq p (gd q 0) (gd r 0) (gd s 0)&&nA (gd r 0)) (.i (i:Int))))=_;rw[amx];change _=some (1,sub (prS p (gd q 0) (gd r 0) (gd s 0)) 0 10);unfold prS;cases J:qq p (gd q 0) (gd r 0) (gd s 0)&&nA (gd r 0) with
 | false=>rfl
 | true =>
 rw[a9] at J;obtain⟨J,a6⟩:=J;unfold qq at J;simp only[a9] at J;obtain⟨hsh,hin,a4,hwo⟩:=J;obtain⟨_,O,M,V,_⟩:=dF hsh;have O:(gd p 4).rows.length<=40:=O;have M:(gd p 5).rows.length<=60:=M;have V:(gd p 6).rows.length<=60:=V;have a5:=kM hwo;have h5:leI ((gd p 5).rows.length:Int) 1000000000=true:=bi (by omega);rw[gr hsh,h5,n4,f9,f9,aU,aU];cases aC (gd p 7) (gd q 0).int with
 | true=>rfl
 | false =>
 cases ii (gd p 5) (gd q 0).int with
 | true=>rfl
 | false =>
 cases aC (gd p 6) (gd q 0).int with
 | true=>rfl
 | false =>
 simp only[f9];rw[amy];have e3:=dE (L:=fo N p q r s) (st:=fun k=>py3 p q r s true (.i (i:Int)) (.i (k:Int))) (gd r 0).rows.length (fun k=>holds (gd p 4) (gd q 0) (sub ((gd r 0).rows.getD k []) 0 2) (.i 1)) (sub (dpS p ++ [.i 7]) 0 10) 3 (fun k hk=>by
  show fo _ p q r s [_,_,_,_,_,_,_,_,_,_,_,_,_,_,_,_,_,_,_,.i (k:Int),_,_,_,_,_,_,_,_,_,_,_,_,_,_,_,_,_,_,_,_,_,_,_,_,_,_,_]=_;rw[sy];simp only[aA,di hk,bu hk,aG hk W,g8];cases holds (gd p 4) (gd q 0) (sub ((gd r 0).rows.getD k []) 0 2) (.i 1) <;> rfl) (by
  show fo _ p q r s [_,_,_,_,_,_,_,_,_,_,_,_,_,_,_,_,_,_,_,.i ((gd r 0).rows.length:Int),_,_,_,_,_,_,_,_,_,_,_,_,_,_,_,_,_,_,_,_,_,_,_,_,_,_,_]=_;rw[sy];simp only[aA,ca]) (N:=N) (by omega)
 simp only[j9] at e3;rw[e3];change _=some (1,sub (bif ia p (gd q 0) (gd r 0) then _ else _) 0 10);rw[show ((List.range (gd r 0).rows.length).all fun k=>holds (gd p 4) (gd q 0) (sub ((gd r 0).rows.getD k []) 0 2) (.i 1))=ia p (gd q 0) (gd r 0) from rfl];cases ia p (gd q 0) (gd r 0) with
 | false=>rfl
 | true =>
 simp only[g6];rw[amE,amJ];have e5:=dE (L:=fw N p q r s) (st:=fun k=>py5 p q r s true (.i (i:Int)) (.i ((gd r 0).rows.length:Int)) (.i (k:Int))) (gd s 0).rows.length (fun k=>tU p (cS (gd s 0) k)) (sub (dpS p ++ [.i 4]) 0 10) 5 (fun k hk=>by
  show fw _ p q r s [_,_,_,_,_,_,_,_,_,_,_,_,_,_,_,_,_,_,_,_,.i (k:Int),_,_,_,_,_,_,_,_,_,_,_,_,_,_,_,_,_,_,_,_,_,_,_,_,_,_,_]=_;rw[rG];rw[show tU [gd p 0,gd p 1,gd p 2,gd p 3,gd p 4,gd p 5,gd p 6,gd p 7,gd p 8] [gd ((gd s 0).rows.getD (D.i (k:Int)).int.toNat []) 0,.i (w64 ((gd ((gd s 0).rows.getD (D.i (k:Int)).int.toNat []) 0).int+1))]=tU p (cS (gd s 0) k) from rfl];simp only[aA,di hk,bu hk,aG hk Y,g8];cases tU p (cS (gd s 0) k) <;> rfl) (by
  show fw _ p q r s [_,_,_,_,_,_,_,_,_,_,_,_,_,_,_,_,_,_,_,_,.i ((gd s 0).rows.length:Int),_,_,_,_,_,_,_,_,_,_,_,_,_,_,_,_,_,_,_,_,_,_,_,_,_,_,_]=_;rw[rG];simp only[aA,ca]) (N:=N) (by omega)
 simp only[j9] at e5;rw[e5];rw[show ((List.range (gd s 0).rows.length).all fun k=>tU p (cS (gd s 0) k))=iF p (gd s 0) from rfl];cases iF p (gd s 0) with
 | false=>rfl
 | true =>
 simp only[g6];show iw N p q r s (some (7,py5 p q r s true (.i (i:Int)) (.i ((gd r 0).rows.length:Int)) (.i ((gd s 0).rows.length:Int))))=_;rw[aml,gr hsh,aU];have U:=adX (L:=fk N p q r s) (st:=fun k=>py7 p q r s true (.i (i:Int)) (.i ((gd r 0).rows.length:Int)) (.i ((gd s 0).rows.length:Int)) (.i (k:Int)) (dm p (gd q 0) (gd s 0) k).1 (dm p (gd q 0) (gd s 0) k).2) (n:=(gd s 0).rows.length) (fun k=>(iD p (gd q 0) (gd s 0) k).int != 0) (fun k=>sub (dpS p ++ [.i (eT [iD p (gd q 0) (gd s 0) k])]) 0 10) 7 (fun k hk=>by
  show fk _ p q r s [_,_,_,_,_,_,_,_,_,_,_,_,_,_,_,_,_,_,_,_,_,_,.i (k:Int),_,_,_,_,_,_,_,_,_,_,_,_,_,_,_,_,_,_,_,_,_,_,_,_,_,_,_,_,_,_,_,_,_,_,_,_]=_;rw[sx];simp only[aA,di hk,bu hk,aG hk Y,g8,h5,aU];obtain⟨_,a0⟩:=Ip p (gd q 0) (gd s 0) O k;obtain⟨a1,a2⟩:=EM (dm p (gd q 0) (gd s 0) k).1 (aF (gd p 5)) (gd q 0) (cS (gd s 0) k) (.i 2);rw[dm];unfold iD;rw[show sub (ed (dm p (gd q 0) (gd s 0) k).1 (aF (gd p 5)) (gd q 0) [gd ((gd s 0).rows.getD k []) 0,.i (w64 ((gd ((gd s 0).rows.getD k []) 0).int+1))] (.i 2)) 0 3=sub (ed (dm p (gd q 0) (gd s 0) k).1 (aF (gd p 5)) (gd q 0) (cS (gd s 0) k) (.i 2)) 0 3 from rfl];generalize ed (dm p (gd q 0) (gd s 0) k).1 (aF (gd p 5)) (gd q 0) (cS (gd s 0) k) (.i 2)=y at *;rw[show gd (sub y 0 3) 0=gd y 0 from rfl,show gd (sub y 0 3) 1=gd y 1 from rfl,show gd (sub y 0 3) 2=gd y 2 from rfl];simp only[bi (show ((gd y 0).rows.length:Int)<=100000000 by omega),bi (show ((gd y 1).rows.length:Int)<=100000000 by omega),bi (show ((dm p (gd q 0) (gd s 0) k).2.rows.length:Int)<=100000000 by omega),u5,aU];cases (gd y 2).int != 0 <;> rfl) (by
  show fk _ p q r s [_,_,_,_,_,_,_,_,_,_,_,_,_,_,_,_,_,_,_,_,_,_,.i ((gd s 0).rows.length:Int),_,_,_,_,_,_,_,_,_,_,_,_,_,_,_,_,_,_,_,_,_,_,_,_,_,_,_,_,_,_,_,_,_,_,_,_]=_;rw[sx];simp only[aA,ca]) (gd s 0).rows.length 0 N (m0 _) (by omega)
 simp only[j9] at U;rw[<- List.range_eq_range'] at U;rw[show (dm p (gd q 0) (gd s 0) 0).1=.l (gd p 4).rows from rfl,show (dm p (gd q 0) (gd s 0) 0).2=.l (gd p 6).rows from rfl] at U;rw[U];cases (List.range (gd s 0).rows.length).find? fun k=>(iD p (gd q 0) (gd s 0) k).int != 0 with
 | some k=>rfl
 | none =>
 show iZ N p q r s (some (9,py7 p q r s true (.i (i:Int)) (.i ((gd r 0).rows.length:Int)) (.i ((gd s 0).rows.length:Int)) (.i ((gd s 0).rows.length:Int)) (dm p (gd q 0) (gd s 0) (gd s 0).rows.length).1 (dm p (gd q 0) (gd s 0) (gd s 0).rows.length).2))=some (1,sub (aeJ p (gd q 0) (gd s 0)) 0 10);unfold aeJ;rw[ane,h5,aU];cases Kb p (gd s 0) with
 | true=>rfl
 | false =>
 generalize dm p (gd q 0) (gd s 0) (gd s 0).rows.length=lw;obtain⟨l,w⟩:=lw;simp only[f9,ci (show (gd s 0).rows.length<=4294967296 by omega),E6,aU];have hH:(gd (dpS p) 5).rows.length<=60:=m8 (jy _ _ _) M;have a3:(gd (dpS p) 5).rows.length<N:=by have:(gd (dpS p) 5).rows.length<=(gd p 5).rows.length:=jy _ _ _;omega
 have e9:aX (dK N p q r s) N (py9 p q r s true (.i (i:Int)) (.i ((gd r 0).rows.length:Int)) (.i ((gd s 0).rows.length:Int)) (.i ((gd s 0).rows.length:Int)) l w [] false (.i 0))=some (11,py9 p q r s true (.i (i:Int)) (.i ((gd r 0).rows.length:Int)) (.i ((gd s 0).rows.length:Int)) (.i ((gd s 0).rows.length:Int)) l w (hS (gd (dpS p) 5) (gd q 0) [gd q 0,.l (gd s 0).rows] (gd (dpS p) 5).rows.length).1 (hS (gd (dpS p) 5) (gd q 0) [gd q 0,.l (gd s 0).rows] (gd (dpS p) 5).rows.length).2 (.i ((gd (dpS p) 5).rows.length:Int))):=amw a3 hH;rw[e9];show jc N p q r s (some (11,py9 p q r s true (.i (i:Int)) (.i ((gd r 0).rows.length:Int)) (.i ((gd s 0).rows.length:Int)) (.i ((gd s 0).rows.length:Int)) l w _ _ _))=_;rw[anb];unfold JK;have hs:=VF (gd (dpS p) 5) (gd q 0) [gd q 0,.l (gd s 0).rows] (gd (dpS p) 5).rows.length;rw[ci (show ((hS (gd (dpS p) 5) (gd q 0) [gd q 0,.l (gd s 0).rows] (gd (dpS p) 5).rows.length).1 ++ [[gd q 0,.l (gd s 0).rows]]).length<=4294967296 by simp;omega)];cases (hS (gd (dpS p) 5) (gd q 0) [gd q 0,.l (gd s 0).rows] (gd (dpS p) 5).rows.length).2 <;> rfl
end Go.Proofs.YtpdfmcmnjikppaaGreat
end
