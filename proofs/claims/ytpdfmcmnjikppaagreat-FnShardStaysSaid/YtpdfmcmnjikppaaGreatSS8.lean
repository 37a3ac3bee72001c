/-
 Texts of the proof,put together: part 8.
-/
import Derived.Test.YtpdfmcmnjikppaaGreatSS1
import Derived.Test.YtpdfmcmnjikppaaGreatSS2
import Derived.Test.YtpdfmcmnjikppaaGreatSS3
import Derived.Test.YtpdfmcmnjikppaaGreatSS4
import Derived.Test.YtpdfmcmnjikppaaGreatSS5
import Derived.Test.YtpdfmcmnjikppaaGreatSS6
import Derived.Test.YtpdfmcmnjikppaaGreatSS7
set_option linter.unusedSimpArgs false
set_option linter.unusedVariables false
set_option linter.unusedSectionVars false
noncomputable section
namespace Go.Proofs.YtpdfmcmnjikppaaGreat
abbrev H3:=@List.mem_append_right
abbrev I3:=@List.mem_append_left
abbrev J6:=@of_decide_eq_false
end Go.Proofs.YtpdfmcmnjikppaaGreat
namespace Go.Proofs.YtpdfmcmnjikppaaGreat
open Go.RowKit Go.Lib
theorem XZ(z:D):dK (fun J=>iG (.l [[]]) (sub J 0 2)) z = !tI z:=by unfold dK tI;exact RT _ fun k _=>rfl
theorem adA{p:b8}(h:aY (sub p 0 9)=true){k:Nat}(hk:k<(p 5).rows.length):gf (sub p 0 9) k=true:=by
 simp only[aY,ep,fG,a9,i6,m0] at h;obtain⟨_,_,_,_,_,_,_,_,_,_,_,_,_,_,_,hw,_⟩:=h;have:=hw k hk;cases k with
 | zero=>simp only[eS,a9] at this;exact this.2
 | succ k=>simp only[eS,a9] at this;exact this.2.2
theorem aiu{p:b8}(h:aY (sub p 0 9)=true){n:Int}(V:fV (p 5) n=true):aA (p 6) n=false/\aA (p 7) n=false:=by
 unfold fV at V;obtain⟨k,hk,e⟩:=B8.1 V;have hk:=m0.1 hk;have e:(p 5 k 0).int=n:=by simpa using e
 have J:=adA h hk;simp only[gf,a9,m6] at J;have O:aA (p 6) (p 5 k 0).int=false:=J.2.2.1;have U:aA (p 7) (p 5 k 0).int=false:=J.2.2.2;rw[e] at O U;exact⟨O,U⟩
theorem BI(p:b8):aB (dpS p 5)=aB (p 5):=by rw[fd];unfold aB;rw[bp,A7];rfl
theorem aaF{u:D}(h:aO u=true){k:Nat}(hk:k<u.rows.length):ar (dV u k)=true:=VF (q:=u k) (FQ h hk).1
theorem aeG{l h n:D}{a:b8}(J:bv [l] [h] [n] (sub a 0 2) [.i 2]=true):(cd l h n a (.i 2) 2).int=0\/(cd l h n a (.i 2) 2).int=2\/(cd l h n a (.i 2) 2).int=3:=by
 unfold cd;rw[J];cases bQ l n (sub a 0 2) (.i 2) with
 | true=>exact .inl rfl
 | false =>
  cases ltI 0 (clW l h (bD n a (.i 2))) with
  | true=>exact .inr (.inl rfl)
  | false =>
   cases (cf l (bD n a (.i 2)):Int)==40 with
   | true=>exact .inr (.inr rfl)
   | false=>exact .inl rfl
theorem abr{a b:D}(e:a.rows.map nrm=b.rows.map nrm){f:D}(h:∀r∈b.rows,aA f (r 0).int=false):∀r∈a.rows,aA f (r 0).int=false:=by
 intro r V;have:nrm r∈b.rows.map nrm:=by rw[<- e];exact N6 V
 obtain⟨J,O,Y⟩:=y4.1 this;have U:J 0=r 0:=by have:=congrArg (fun x=>x 0) Y;exact this
 rw[<- U];exact h J O
section
variable {p:b8} {n u:D} (hsh:aY (sub p 0 9)=true) (hin:inB n.int 1 60=true) (hwo:aO u=true)
include hsh hin hwo
theorem LV{l:D}(O:aR l=true){k:Nat}(hk:k<u.rows.length):bv [l] [aB (p 5)] [n] (sub (dV u k) 0 2) [.i 2]=true:=by obtain⟨_,_,J,_⟩:=cD hsh;have J:(p 5).rows.length<=60:=J;rw[kQ,O,hin,show ar (sub (sub (dV u k) 0 2) 0 2)=ar (dV u k) from rfl,aaF hwo hk,bb (show (aB (p 5):Int)<=60 by unfold aB;rw[bp,m9];omega)];rfl
theorem NC:∀k,k<=u.rows.length->(∀j,j<k->(gN p n u j).int=0)->(bK p n u (.i 0) k).2.2.int=0/\(bK p n u (.i 0) k).2.1=(cT p n u k).2/\(bK p n u (.i 0) k).1.rows.map nrm=(cT p n u k).1.rows.map nrm/\aR (cT p n u k).1=true
 | 0,_,_=>⟨rfl,rfl,rfl,(cD hsh).1⟩
 | k+1,hk,h0=>by
  obtain⟨i1,i2,i3,i4⟩:=NC k (by omega) (fun j hj=>h0 j (by omega));have Z:=LV hsh hin hwo i4 (show k<u.rows.length by omega);obtain⟨a1,a2,a3⟩:=Tm i3 (aB (p 5)) n (dV u k) (.i 2);obtain⟨b1,V,U⟩:=Na Z (.inl rfl);have hc:=h0 k (by omega);unfold gN at hc;have hn:=Xj (cT p n u k).1 (aB (p 5)) n (dV u k) (.i 2);have ho:=agx Z;obtain⟨w1,w2⟩:=Fr (dI (cT p n u k).1 (aB (p 5)) n (dV u k) (.i 2) 0) (cT p n u k).2 (dI (cT p n u k).1 (aB (p 5)) n (dV u k) (.i 2) 1) (dI (cT p n u k).1 (aB (p 5)) n (dV u k) (.i 2) 1).rows.length;have J:=abr U hn;rw[<- V] at J;have Y:=Od J;have O:(cT p n u (k+1)).1.rows.map nrm=(dI (cT p n u k).1 (aB (p 5)) n (dV u k) (.i 2) 0).rows.map nrm:=w1.trans Y;have hI:bK p n u (.i 0) (k+1)=(cd (bK p n u (.i 0) k).1 (aB (p 5)) n (dV u k) (.i 2) 0,gr (bK p n u (.i 0) k).2.1 (cd (bK p n u (.i 0) k).1 (aB (p 5)) n (dV u k) (.i 2) 1) (cd (bK p n u (.i 0) k).1 (aB (p 5)) n (dV u k) (.i 2) 1).rows.length,.i 0):=by rw[bK,i1,BI,a1,<- b1,hc];rfl
  rw[hI];refine⟨rfl,?_,?_,?_⟩
  ·show gr (bK p n u (.i 0) k).2.1 _ _=(cT p n u (k+1)).2;rw[show (cT p n u (k+1)).2=(fp (dI (cT p n u k).1 (aB (p 5)) n (dV u k) (.i 2) 0) (cT p n u k).2 (dI (cT p n u k).1 (aB (p 5)) n (dV u k) (.i 2) 1) (dI (cT p n u k).1 (aB (p 5)) n (dV u k) (.i 2) 1).rows.length).2 from rfl,w2,i2,a2,<- V]
  ·show (cd (bK p n u (.i 0) k).1 (aB (p 5)) n (dV u k) (.i 2) 0).rows.map nrm=_;rw[O,a3,U]
  ·rw[qH (O.trans U)];exact ho
theorem adp{k:Nat}(hk:k<u.rows.length)(h0:∀j,j<k->(gN p n u j).int=0)(h1:(gN p n u k).int≠0):(bK p n u (.i 0) u.rows.length).2.2=.i (cG [gN p n u k])/\cG [gN p n u k]≠0:=by
 obtain⟨i1,i2,Y,Z⟩:=NC hsh hin hwo k (by omega) h0;have V:=LV hsh hin hwo Z hk;obtain⟨a1,_,_⟩:=Tm Y (aB (p 5)) n (dV u k) (.i 2);obtain⟨U,_,_⟩:=Na V (.inl rfl);have J:=aeG V;rw[<- U] at J;change (gN p n u k).int=0\/(gN p n u k).int=2\/(gN p n u k).int=3 at J;have e1:(cd (bK p n u (.i 0) k).1 (aB (p 5)) n (dV u k) (.i 2) 2)=gN p n u k:=a1.trans U.symm;have key:(bK p n u (.i 0) (k+1)).2.2=.i (cG [gN p n u k])/\cG [gN p n u k]≠0:=by
  rw[bK,i1,BI,e1];unfold cG;rw[show gd [gN p n u k] 0=gN p n u k from rfl];rcases J with J | J | J
  ·exact absurd J h1
  ·rw[J];exact⟨rfl,by decide⟩
  ·rw[J];exact⟨rfl,by decide⟩
 obtain⟨m,hm⟩:=Nat.le.dest (show k+1<=u.rows.length by omega);have O:=oW p n u (.i 0) (k:=k+1) (by rw[key.1];exact v8.2 key.2) m;rw[hm] at O;rw[O];exact key
end
theorem akJ{h n:D}{v:b8}{i:Nat}(hi:i<=h.rows.length)(h1:∀k,k<i->(gd (h.rows.getD k []) 0).int<n.int)(V:∀k,i<=k->k<h.rows.length->n.int<(gd (h.rows.getD k []) 0).int)(Z:∀r∈h.rows,sub r 0 2=r) :
  ∀k,k<=h.rows.length->hS h n v k=bif ltI (i:Int) (k:Int) then (h.rows.take i ++ [v]++(h.rows.drop i).take (k - i),true) else (h.rows.take k,false)
 | 0,_=>by rw[gh (by omega)];rfl
 | k+1,hk=>by
  have ih:=akJ (v:=v) hi h1 V Z k (by omega);have J:k<h.rows.length:=by omega
  have U:sub (h.rows.getD k []) 0 2=h.rows[k]:=by rw[aU J];exact Z _ (p9 J)
  rw[hS,ih,U];by_cases Y:i<k
  ·have e1:(h.rows.drop i).take (k+1 - i)=(h.rows.drop i).take (k - i) ++ [h.rows[k]]:=by rw[show k+1 - i=k - i+1 from by omega,G6,y0,show i+(k - i)=k from by omega,g6 J];rfl
   rw[fI Y,fI (show i<k+1 by omega),e1];simp[z7]
  ·by_cases a0:i=k
   ·subst a0;have O:=V i (g8 _) J;rw[Zx,fI (show i<i+1 by omega),f5,gJ O,show i+1 - i=1 from by omega,H4 J];rfl
   ·have O:=h1 k (by omega);rw[gh (show (k:Int)<=(i:Int) by omega),gh (show ((k+1:Nat):Int)<=(i:Int) by omega),f5,f5,gh (show (gd (h.rows.getD k []) 0).int<=n.int by omega),G6,g6 J];rfl
theorem aes{p:b8}(hsh:aY (sub p 0 9)=true){n u:D}(hn:fV (gd p 5) n.int=false) :
  abF (gd (dpS p) 5) n [n,.l u.rows]=jP (gd (dpS p) 5) (bl (aB (gd (dpS p) 5)) n.int:Int) (.l [[n,.l u.rows]]):=by
 obtain⟨l1,l2,l3⟩:=Kn (z:=aB (gd (dpS p) 5)) (Yg hsh) n.int;have a0:∀r∈(gd (dpS p) 5).rows,(gd r 0).int≠n.int:=fun r U e=>by
  have:aA (aB (gd (dpS p) 5)) n.int=true:=by rw[lY,sN];exact⟨r,U,e⟩
  rw[Sj] at this;change fV (gd p 5) n.int=true at this;rw[hn] at this;cases this
 have Z:∀r∈(gd (dpS p) 5).rows,sub r 0 2=r:=fun r U=>by rw[fd] at U;obtain⟨x,_,rfl⟩:=y4.1 U;rfl
 generalize gd (dpS p) 5=h at *;have V:(aB h).rows.length=h.rows.length:=m9 ..;rw[V] at l1 l3;have J:∀k,k<h.rows.length->bI (aB h) k=(gd (h.rows.getD k []) 0).int:=fun k hk=>by show (gd ((h.rows.map fun r => [gd r 0]).getD k []) 0).int=_;rw[f9,u6,g6 hk,aU hk];rfl
 generalize bl (aB h) n.int=i at *;have Y:=akJ (h:=h) (n:=n) (v:= [n,.l u.rows]) l1 (fun k hk=>by rw[<- J k (by omega)];exact l2 k hk) (fun k hk O=>by have a:=l3 k hk O;rw[J k O] at a;have b:=a0 (h.rows.getD k []) (by rw[aU O];exact p9 O);omega) Z h.rows.length (g8 _);unfold abF jP;rw[Y,g4];by_cases hi:i<h.rows.length
 ·rw[fI hi,f8,z9 (show (h.rows.drop i).length<=h.rows.length - i by rw[t5];exact g8 _)];rfl
 ·obtain rfl:i=h.rows.length:=by omega
  rw[Zx,f5,C3,List.drop_length,B9];rfl
theorem aja{p:b8}(hsh:aY (sub p 0 9)=true)(u:D):ltI 60 (w64 (ii (sub p 0 9)+bi (p 3) u))=Oo p u:=by unfold Oo;have h:ii (sub p 0 9)=(p 3:Int)+dD (p 3) (p 5) (p 5).rows.length:=rfl;obtain⟨_,_,J,_⟩:=cD hsh;have J:(p 5).rows.length<=60:=J;have h1:=oC (p 3) (p 5) (p 5).rows.length;have O:=(cD hsh).2.2.2.2.2.1;simp only[aN,a9,leI,f7] at O;have O:(p 3:Int)<=60:=O.2;rw[h,br (x:=(p 3:Int)+dD (p 3) (p 5) (p 5).rows.length) (by omega) (by omega)]
theorem Dm(p:b8)(n u:D){c:Int}(O:c≠0):adI p n u (bK p n u (.i c) u.rows.length)=dpS p ++ [.i c]:=by
 have J:(c==0)=false:=by simpa using O
 have:=oW p n u (.i c) (k:=0) J u.rows.length;rw[i9] at this;rw[this];show (bif (c==0) then _ else _)=_;rw[J,f5];rfl
theorem sp{z:D}{C:b8->Bool}:((List.range z.rows.length).all fun k=>C (z.rows.getD k []))=true↔∀r∈z.rows,C r=true:=by
 rw[i6];constructor
 ·intro h r J;obtain⟨k,hk,rfl⟩:=n9 J;have:=h k (m0.2 hk)
  rwa [aU hk] at this
 ·intro h k hk;have hk:=m0.1 hk;rw[aU hk];exact h _ (p9 hk)
theorem aht{z:D}{C:b8->Bool}:((List.range z.rows.length).any fun k=>C (z.rows.getD k []))=true↔∃r∈z.rows,C r=true:=by
 rw[B8];constructor
 ·rintro⟨k,hk,h⟩;have hk:=m0.1 hk;rw[aU hk] at h;exact⟨_,p9 hk,h⟩
 ·rintro⟨r,J,h⟩;obtain⟨k,hk,rfl⟩:=n9 J;exact⟨k,m0.2 hk,by rw[aU hk];exact h⟩
theorem sP{f:Nat->Int}{n:Nat}(h:∀k,k+1<n->f k<f (k+1)):∀j i,i<j->j<n->f i<f j
 | 0,_,h1,_=>by omega
 | j+1,i,h1,h2=>by
  have a:=h j h2;by_cases e:i=j
  ·rw[e];exact a
  ·have:=sP h j i (by omega) (by omega);omega
theorem ui{z:D}:(ai z).Pairwise (· < ·)↔∀k,k+1<z.rows.length->(z.rows.getD k [] 0).int<(z.rows.getD (k+1) [] 0).int:=by
 constructor
 ·intro h k hk;have h1:=cP z k (by omega);have Y:=cP z (k+1) hk;obtain⟨U,e1⟩:=g5.1 h1;obtain⟨V,e2⟩:=g5.1 Y;rw[<- e1,<- e2];exact t9.1 h k (k+1) U V (by omega)
 ·intro h;refine t9.2 fun i j hi J O=>?_
  rw[bR] at hi J;obtain⟨U,e1⟩:=g5.1 (cP z i hi);obtain⟨V,e2⟩:=g5.1 (cP z j J);rw[e1,e2];exact sP (f:=fun k=>(z k 0).int) h j i O J
theorem SE(z:D):fM z=true↔(ai z).Pairwise (· < ·)/\∀r∈z.rows,inB (r 0).int 1 60=true:=by
 unfold fM;rw[ui,<- sp (C:=fun r=>inB (r 0).int 1 60)];simp only[i6,m0];constructor
 ·intro h;refine⟨fun k hk=>?_,fun k hk=>?_⟩
  ·have:=h (k+1) hk;simp only[ll,a9,leI,m6,y6] at this;omega
  ·have:=h k hk;cases k with
   | zero=>exact this
   | succ k=>simp only[ll,a9] at this;exact this.1
 ·rintro⟨h1,J⟩ k hk;cases k with
  | zero=>exact J 0 hk
  | succ k =>simp only[ll,a9,leI,m6,y6];have:=h1 k hk;exact⟨J (k+1) hk,by omega⟩
theorem jC{z:D}{n:Int}:aA z n=false↔n ∉ ai z:=by rw[<- gx,D6]
theorem gD{z:D}{n:Int}:fV z n=true↔n∈ai z:=by rw[sN,cK]
structure HOk(l w e:D)(r:b8):Prop where
 tx:inB (r 0).int 1 60=true
 ws:aO (r 1)=true
 lk:∀v∈(r 1).rows,holds l (r 0) (dX v) (.i 2)=true
 nw:(r 0).int ∉ ai w
 ne:(r 0).int ∉ ai e
structure LOk(o w e:D)(r:b8):Prop where
 rg:ax o [r 1,r 2]=true
 nw:(r 0).int ∉ ai w
 ne:(r 0).int ∉ ai e
def ev(c:D)(rows:List b8):Int:=(rows.map fun r=>bi c (r 1)).sum
theorem GV(c hs:D):∀k,k<=hs.rows.length->dD c hs k=ev c (hs.rows.take k)
 | 0,_=>rfl
 | k+1,hk=>by rw[dD,GV c hs k (by omega),sS (show k<hs.rows.length by omega)];unfold ev;rw[u9,List.sum_append];simp
theorem zL(c hs:D):dD c hs hs.rows.length=ev c hs.rows:=by rw[GV c hs _ (g8 _),C3]
structure SOk(p:b8):Prop where
 me:inB (p 0).int 0 3=true
 own:aV (p 1)=true
 frz:aV (p 2)=true
 st:aN (p 3)=true
 lk:aR (p 4)=true
 rk:inB (p 8).int 0 1000000=true
 w:(ai (p 6)).Pairwise (· < ·)
 w1:∀r∈(p 6).rows,inB (r 0).int 1 60=true
 e:(ai (p 7)).Pairwise (· < ·)
 e1:∀r∈(p 7).rows,inB (r 0).int 1 60=true
 fr:∀r∈(p 2).rows,ax (p 1) (sub r 0 2)=true
 ce:∀r∈(p 3).rows,ax (p 1) (dX r)=true
 lo:∀r∈(p 4).rows,LOk (p 1) (p 6) (p 7) r
 we:∀m∈ai (p 6),m ∉ ai (p 7)
 h:(ai (p 5)).Pairwise (· < ·)
 h1:∀r∈(p 5).rows,HOk (p 4) (p 6) (p 7) r
 sum:(p 3:Int)+ev (p 3) (p 5).rows<=60
theorem Tv(p:b8)(k:Nat):gf p k=true↔aO (((p 5).rows.getD k []) 1)=true/\(∀v∈(((p 5).rows.getD k []) 1).rows,holds (p 4) (((p 5).rows.getD k []) 0) (dX v) (.i 2)=true)/\(((p 5).rows.getD k []) 0).int ∉ ai (p 6)/\(((p 5).rows.getD k []) 0).int ∉ ai (p 7):=by unfold gf;rw[a9,a9,a9,m6,m6,jC,jC,<- sp (z:=p 5 k 1) (C:=fun v=>holds (p 4) (p 5 k 0) (dX v) (.i 2))]
theorem adl(p:b8):fG p=true↔(ai (p 5)).Pairwise (· < ·)/\∀r∈(p 5).rows,HOk (p 4) (p 6) (p 7) r:=by
 have key:∀k,k<(p 5).rows.length->(HOk (p 4) (p 6) (p 7) (p 5 k)↔(inB (p 5 k 0).int 1 60=true/\gf p k=true)):=fun k hk=>by rw[Tv];exact⟨fun h=>⟨h.tx,h.ws,h.lk,h.nw,h.ne⟩,fun h=>⟨h.1,h.2.1,h.2.2.1,h.2.2.2.1,h.2.2.2.2⟩⟩
 unfold fG;rw[ui];simp only[i6,m0];constructor
 ·intro h;refine⟨fun k hk=>?_,fun r O=>?_⟩
  ·have:=h (k+1) hk;simp only[eS,a9,leI,m6,y6] at this;omega
  ·obtain⟨k,hk,rfl⟩:=n9 O;rw[<- aU hk,key k hk];have:=h k hk;cases k with
   | zero=>simp only[eS,a9] at this;exact this
   | succ k=>simp only[eS,a9] at this;exact⟨this.1,this.2.2⟩
 ·rintro⟨h1,J⟩ k hk;have a:=J _ (p9 hk);rw[<- aU hk,key k hk] at a;cases k with
  | zero=>simp only[eS,a9];exact a
  | succ k =>simp only[eS,a9,leI,m6,y6];have:=h1 k hk;exact⟨a.1,by omega,a.2⟩
theorem pf{z:D}(h:(ai z).Pairwise (· < ·))(h1:∀r∈z.rows,inB (r 0).int 1 60=true):z.rows.length<=60:=abU ((SE z).2 ⟨h,h1⟩)
theorem cQ(p:b8):aY p=true↔SOk p:=by
 have c0:cx p 2 0 nX=true↔∀r∈(p 2).rows,ax (p 1) (sub r 0 2)=true:=sp (z:=p 2) (C:=fun r=>ax (p 1) (sub r 0 2));have Z:cx p 3 2 jY=true↔∀r∈(p 3).rows,ax (p 1) (dX r)=true:=sp (z:=p 3) (C:=fun r=>ax (p 1) (dX r));have c4:cx p 4 4 hJ=true↔∀r∈(p 4).rows,LOk (p 1) (p 6) (p 7) r:=by
  refine (sp (z:=p 4) (C:=fun r=>ax (p 1) [r 1,r 2]&&(!aA (p 6) (r 0).int && !aA (p 7) (r 0).int))).trans ?_;refine forall_congr' fun r=>imp_congr_right fun _=>?_
  rw[a9,a9,m6,m6,jC,jC];exact⟨fun h=>⟨h.1,h.2.1,h.2.2⟩,fun h=>⟨h.rg,h.nw,h.ne⟩⟩
 have c6:cx p 6 6 gy=true↔∀m∈ai (p 6),m ∉ ai (p 7):=by
  refine (sp (z:=p 6) (C:=fun r => !aA (p 7) (r 0).int)).trans ?_;constructor
  ·intro h m hm;obtain⟨r,J,rfl⟩:=(cK _ _).1 hm;have:=h r J
   rwa [m6,jC] at this
  ·intro h r J;rw[m6,jC];exact h _ ((cK _ _).2 ⟨r,J,rfl⟩)
 unfold aY ep;simp only[a9];rw[c0,Z,c4,c6,adl,SE,SE,zL];simp only[leI,f7];constructor
 ·rintro⟨a0,a1,a2,a3,Y,a8,_,_,_,V,U,b0,b2,b4,b6,O,bs⟩;exact⟨a0,a1,a2,a3,Y,a8,V.1,V.2,U.1,U.2,b0,b2,b4,b6,O.1,O.2,bs⟩
 ·intro s;have l5:=pf s.h fun r J=>(s.h1 r J).tx
  have l6:=pf s.w s.w1;have l7:=pf s.e s.e1;exact⟨s.me,s.own,s.frz,s.st,s.lk,s.rk,by omega,by omega,by omega,⟨s.w,s.w1⟩,⟨s.e,s.e1⟩,s.fr,s.ce,s.lo,s.we,⟨s.h,s.h1⟩,s.sum⟩
theorem aaV(z a:D):∀k,cH (.l z.rows) a k=cH z a k
 | 0=>rfl
 | k+1=>by rw[cH,cH,aaV z a k];rfl
theorem IR(z:D)(q:b8):ax (.l z.rows) q=ax z q:=by unfold ax ca;rw[aaV];rfl
theorem gF{p:b8}(h:SOk p):SOk (ddS p):=by
 have e5:ddS p 5=.l ((p 5).rows.map fun r => [r 0,.l (r 1).rows]):=fd p;have O:ai (ddS p 5)=ai (p 5):=by rw[e5];unfold ai;rw[bp,A7];rfl
 refine⟨h.me,h.own,h.frz,h.st,h.lk,h.rk,h.w,h.w1,h.e,h.e1,fun r J=>(IR _ _).trans (h.fr r J),fun r J=>(IR _ _).trans (h.ce r J),fun r J=>⟨(IR _ _).trans (h.lo r J).rg,(h.lo r J).nw,(h.lo r J).ne⟩,h.we,by rw[O];exact h.h,fun r J=>?_,?_⟩
 ·rw[e5] at J;obtain⟨x,U,rfl⟩:=y4.1 J;have:=h.h1 x U;exact⟨this.tx,this.ws,this.lk,this.nw,this.ne⟩
 ·rw[e5];have:ev (ddS p 3) (D.l ((p 5).rows.map fun r => [r 0,.l (r 1).rows])).rows=ev (p 3) (p 5).rows:=by unfold ev;rw[bp,A7];rfl
  rw[this];exact h.sum
set_option maxRecDepth 4096
set_option maxHeartbeats 1000000
abbrev GW:=find [Ac]
abbrev GR:=[0,1,3,4]
theorem OL(N:Nat)(p q:b8):aZ f4 GW N GR Tryz.f123 (.one (.c (.d (.sl 108)))) [⟨sd (.sl 108),p⟩,⟨ag ay,q⟩]=some (bo,
 nd (leI (p 0) 1000000000) (some (1,[fg (p 0) (sub q 0 2) false]))):=by kernel_rfl
def vr:Ent:=(123,e2 (sd (.sl 108)) (ag ay) fun p q=>(⟨.one (.c (.d (.sl 108))),[fg (p 0) q false]⟩,leI (p 0) 1000000000))
theorem zp:aw f4 vr:=bj fun p q h=>aq (N:=0) (ks:=GR) (ap (fC ⟨DU,fN⟩)) Tryz.func123 fun hw=>by rw[OL];have h:leI (p 0) 1000000000=true:=h;rw[h];rfl
abbrev tW:=find [jr,FZ,vw]
abbrev un:=[0,1,4,5,6,7,23,31,41,4000006]
def iY(N:Nat)(p q:b8):b8->Out:=bc f4 tW N un Tryz.f125 (.tup [.c (.d (.sl 108)),.c (.d (.bool))]) [⟨sd (.sl 108),p⟩,⟨sd (.sl 108),q⟩] 0
theorem zr(N:Nat)(p q:b8)(U O x2 Z Y V J:D):(iY N p q) [U,O,x2,Z,Y,V,J] =
 bif ltI J.int O then nd (al J.int O.rows.length) (nd (aN U) (bif leI 0 (xu U (O.rows.getD J.int.toNat [] 0).int).int then some (1,[.l [],.b false])
 else nd (al J.int O.rows.length) (nd (al J.int O.rows.length) (nd (cl V) (nx [U,O,x2,Z,Y,prD (pT (prs V) (O.rows.getD J.int.toNat [] 0).int (O.rows.getD J.int.toNat [] 1).int true),.i (w64 (J.int+1))])))))
 else ex 0 [U,O,x2,Z,Y,V,J]:=by kernel_rfl
theorem MX(N:Nat)(p q:b8):aZ f4 tW N un Tryz.f125 (.tup [.c (.d (.sl 108)),.c (.d (.bool))]) [⟨sd (.sl 108),p⟩,⟨sd (.sl 108),q⟩]=some (bo,
 bif !(aN (p 0)) then some (1,[.l [],.b false])
 else bif !(aN (q 0)) then some (1,[.l [],.b false])
 else bif ltI 60 (w64 ((p 0:Int)+(q 0:Int))) then some (1,[.l [],.b false])
 else nd (bq ([]++(p 0).rows)&&true) ((let J:=ba (iY N p q) N [p 0,q 0,.l [],.i 0,.b (ltI 60 (w64 ((p 0:Int)+(q 0:Int)))),.l ([]++(p 0).rows),.i 0]
  nd J.isSome (bif J.code==1 then some (1,J.pay)
  else nd (J.code==2) (some (1,[J.pay 5,.b true])))))):=by kernel_rfl
def zf(z u:D):Nat->D
 | 0=>.l z.rows
 | k+1=>prD (pT (prs (zf z u k)) (u.rows.getD k [] 0).int (u.rows.getD k [] 1).int true)
def JX(z u:D)(k:Nat):Bool:=leI 0 (xu z (u.rows.getD k [] 0).int).int
def Oc(z u:D):Bool:=aN z&&(aN u&&(leI ((z:Int)+(u:Int)) 60&&(List.range u.rows.length).all fun k => !JX z u k))
def kY(z u:D):b8:= [.l (bif Oc z u then (zf z u u.rows.length).rows else[]),.b (Oc z u)]
theorem Rp{z:D}(h:aN z=true):upL (prs z):=by have hs:=dw h;refine EX.1 (Rs ⟨by have:=hs.len;omega,hs.key,hs.lt⟩)
theorem ajK{u:D}(h:aN u=true){k:Nat}(hk:k<u.rows.length):0<=(u.rows.getD k [] 0).int/\(u.rows.getD k [] 0).int<=999:=(dw h).key k hk
theorem UK{z u:D}(hz:aN z=true)(J:aN u=true):∀k,k<=u.rows.length->upL (prs (zf z u k))
 | 0,_=>Rp (z:=z) hz
 | k+1,hk=>by rw[zf,Do];exact SP (UK hz J k (by omega)) (ajK J (by omega)) _ _
def EJ:Ent:=(125,e2 (sd (.sl 108)) (sd (.sl 108)) fun p q=>(⟨.tup [.c (.d (.sl 108)),.c (.d (.bool))],sub (kY (p 0) (q 0)) 0 2⟩,true))
theorem Nw:aw f4 EJ:=bj fun p q h=>aq (N:=(q 0).rows.length+1) (ks:=un) (ap (fC ⟨iB,fC ⟨Iv,fC ⟨yI,fN⟩⟩⟩)) Tryz.func125 fun hw=>by
 rw[MX];rw[show sub (kY (p 0) (q 0)) 0 2=kY (p 0) (q 0) from rfl];unfold kY Oc;cases hz:aN (p 0) with
 | false=>rfl
 | true =>
 cases J:aN (q 0) with
 | false=>rfl
 | true =>
 have V:(p 0).rows.length<=60:=(dw hz).len;have Y:(q 0).rows.length<=60:=(dw J).len;rw[l8,f5,f5,br (x:=(p 0:Int)+(q 0:Int)) (by omega) (by omega)];by_cases O:(p 0:Int)+(q 0:Int)<=60
 ·rw[gh O,bb O,f5,bL (by rw[C7];omega),v6,aP,s8,s8,s8];have e:=cU (L:=iY ((q 0).rows.length+1) p q) (fun k => [p 0,q 0,.l [],.i 0,.b false,zf (p 0) (q 0) k,.i (k:Int)]) (q 0).rows.length (fun k => !JX (p 0) (q 0) k) [.l [],.b false] 0 (fun k hk=>?_) ?_ (N:=(q 0).rows.length+1) (by omega)
  ·simp only[g9,zf] at e;rw[C7,e];cases (List.range (q 0).rows.length).all fun k => !JX (p 0) (q 0) k
   ·rfl
   ·show some (bo,some (1,[zf (p 0) (q 0) (q 0).rows.length,.b true]))=some (bo,some (1,[.l (zf (p 0) (q 0) (q 0).rows.length).rows,.b true]));cases (q 0).rows.length <;> rfl
  ·show iY _ p q [_,_,_,_,_,_,.i (k:Int)]=_;rw[zr];have U:cl (zf (p 0) (q 0) k)=true:=EX.2 (UK hz J k (by omega));simp only[aE,cy hk,bn hk,g4,aF hk (show (q 0).rows.length<=9223372036854775807 by omega),hz,U,aP];unfold JX;cases leI 0 (xu (p 0) (q 0 k 0).int).int <;> rfl
  ·show iY _ p q [_,_,_,_,_,_,.i (q 0:Int)]=_;rw[zr];simp only[aE,bF]
 ·rw[gJ (show (60:Int)<(p 0:Int)+(q 0:Int) by omega),Er (show (60:Int)<(p 0:Int)+(q 0:Int) by omega)];rfl
theorem dq(z:D):aN z=true↔(∀a∈prs z,(0<=a.1/\a.1<=999)/\(0<=a.2/\a.2<=1000000000))/\(prs z).Pairwise (fun a b=>a.1<b.1)/\z.rows.length<=60:=by
 have J:∀k (h:k<z.rows.length),(prs z)[k]'(by rw[dF];exact h)=((gd (z.rows.getD k []) 0).int,(gd (z.rows.getD k []) 1).int):=fun k h=>nG z k h
 constructor
 ·intro h;have hs:=dw h;refine⟨fun a ha=>?_,t9.2 fun i j hi U Y=>?_,hs.len⟩
  ·obtain⟨k,hk,rfl⟩:=n9 ha;rw[dF] at hk;rw[J k hk];refine⟨hs.key k hk,?_⟩;simp only[aN,a9,i6,m0] at h;have:=h.1 k hk;cases k with
   | zero=>simp only[storeAt,a9,inB,f7] at this;exact⟨this.2.1,this.2.2⟩
   | succ k=>simp only[storeAt,a9,inB,f7] at this;exact⟨this.2.1.1,this.2.1.2⟩
  ·rw[dF] at hi U;rw[J i hi,J j U];exact hs.lt i j Y U
 ·rintro⟨h1,Z,h3⟩;simp only[aN,a9,i6,m0,leI,f7];refine⟨fun k hk=>?_,by omega⟩;have O:=h1 _ (p9 (by rw[dF];exact hk));rw[J k hk] at O;cases k with
  | zero =>simp only[storeAt,a9,inB,f7];exact⟨⟨O.1.1,O.1.2⟩,O.2.1,O.2.2⟩
  | succ k =>have V:=t9.1 Z k (k+1) (by rw[dF];omega) (by rw[dF];exact hk) (by omega);rw[J k (by omega),J (k+1) hk] at V;simp only[storeAt,a9,inB,f7,leI,m6,y6];have V:(gd (z.rows.getD k []) 0).int<(gd (z.rows.getD (k+1) []) 0).int:=V;exact⟨⟨O.1.1,O.1.2⟩,⟨O.2.1,O.2.2⟩,by omega⟩
theorem aay{z:D}(h:aN z=true)(t:Int):bsB z t=true↔∃a∈prs z,a.1=t:=by
 have hs:=dw h;constructor
 ·intro O;unfold bsB at O;simp only[a9,ltI,f7,p6] at O;have J:bl z t<z.rows.length:=by omega
  exact⟨_,p9 (by rw[dF];exact J),by rw[nG z _ J];exact O.2⟩
 ·rintro⟨a,Z,e⟩;obtain⟨k,hk,rfl⟩:=n9 Z;rw[dF] at hk;rw[nG z k hk] at e;have e:bI z k=t:=e;have U:bl z t=k:=qB (by omega) (fun j Y=>by have:=hs.lt j k Y hk;omega) (fun j h1 V=>by
   rcases A6 k j with h3 | h3
   ·have:=hs.lt k j h3 V;omega
   ·obtain rfl:j=k:=by omega
    omega)
  unfold bsB;rw[U,fI hk,e,n8];rfl
theorem afS{xs:List (Int × Int)}{t v:Int}{m:Int × Int}:m∈pT xs t v true↔m=(t,v)\/(m∈xs/\m.1≠t):=by
 unfold pT gv iO;rw[f8];simp only[m7,t8,n4,f7];constructor
 ·rintro ((⟨h1,J⟩ | h) | ⟨h1,J⟩)
  ·exact .inr ⟨h1,by omega⟩
  ·exact .inl h
  ·exact .inr ⟨h1,by omega⟩
 ·rintro (h | ⟨h1,J⟩)
  ·exact .inl (.inr h)
  ·rcases H9 m.1 t with h3 | h3 | h3
   ·exact .inl (.inl ⟨h1,h3⟩)
   ·exact absurd h3 J
   ·exact .inr ⟨h1,h3⟩
def Fo(xs:List (Int × Int))(t:Int):Bool:=xs.any fun a=>a.1==t
theorem mP{xs:List (Int × Int)}{t:Int}:Fo xs t=true↔∃a∈xs,a.1=t:=by simp[Fo]
theorem agd{xs:List (Int × Int)}{t v:Int}{b:Bool}{m:Int × Int}:m∈pT xs t v b↔(b=true/\m=(t,v))\/(m∈xs/\m.1≠t):=by
 cases b with
 | true=>simp[afS]
 | false =>
  unfold pT gv iO;simp only[f5,B9,m7,t8,f7,u4,false_and,false_or];constructor
  ·rintro (⟨h1,J⟩ | ⟨h1,J⟩)
   ·exact⟨h1,by omega⟩
   ·exact⟨h1,by omega⟩
  ·rintro⟨h1,J⟩;rcases H9 m.1 t with h3 | h3 | h3
   ·exact .inl ⟨h1,h3⟩
   ·exact absurd h3 J
   ·exact .inr ⟨h1,h3⟩
theorem aaC(t:Int):∀xs:List (Int × Int),(gv t xs).length+(iO t xs).length+(bif Fo xs t then 1 else 0)<=xs.length
 | []=>g8 _
 | a::xs=>by
  have J:=aaC t xs;unfold gv iO Fo at J ⊢;rw[B0,B0,List.any_cons];rcases H9 a.1 t with h | h | h
  ·have e:(a.1==t)=false:=by simp;omega
   have e2:¬t<a.1:=by omega
   rw[e];simp only[h,e2,decide_true,decide_false,if_true,u4,if_false,C2,F5];omega
  ·have e:(a.1==t)=true:=by simp[h]
   have e1:¬a.1<t:=by omega
   have e2:¬t<a.1:=by omega
   rw[e];simp only[e1,e2,decide_false,u4,if_false,C2,L6,f8];revert J;cases xs.any (fun a=>a.1==t) <;> simp only[f8,f5] <;> omega
  ·have e:(a.1==t)=false:=by simp;omega
   have e2:¬a.1<t:=by omega
   rw[e];simp only[h,e2,decide_true,decide_false,if_true,u4,if_false,C2,F5];omega
theorem adQ(xs:List (Int × Int))(t v:Int)(b:Bool):(pT xs t v b).length<=xs.length+(bif b && !Fo xs t then 1 else 0):=by have h:=aaC t xs;unfold pT;rw[i5,i5];revert h;cases b <;> cases Fo xs t <;> simp only[f8,f5,s8,y7,l8,w5,D3,F0] <;> omega
theorem pt(z:D):aO z=true↔z.rows.length<=60/\(∀r∈z.rows,inB (r 0).int 0 999=true/\inB (r 1).int (-1) 1000000000=true)/\(ai z).Pairwise (· < ·):=by
 unfold aO;rw[ui,a9,f7];simp only[i6,m0,fL,a9,y9,p6,m6,y6];constructor
 ·rintro⟨U,h⟩;refine⟨by omega,fun r O=>?_,fun k hk=>?_⟩
  ·obtain⟨k,hk,rfl⟩:=n9 O;have:=h k hk;rw[aU hk] at this;exact⟨this.1,this.2.1⟩
  ·have:=(h (k+1) hk).2.2;rw[J5] at this;omega
 ·rintro⟨U,h1,J⟩;refine⟨by omega,fun k hk=>?_⟩;have a:=h1 _ (p9 hk);rw[<- aU hk] at a;refine⟨a.1,a.2,?_⟩;cases k with
  | zero=>exact .inl rfl
  | succ k =>have:=J k hk;rw[J5];exact .inr (by omega)
theorem agj{z:D}(h:aN z=true){t v:Int}(J:(t,v)∈prs z):(xu z t).int=v:=by
 have hs:=dw h;have Y:=(aay h t).2 ⟨_,J,rfl⟩;obtain⟨k,hk,e⟩:=n9 J;rw[dF] at hk;rw[nG z k hk] at e;have e1:bI z k=t:=congrArg Prod.fst e;have e2:(z k 1).int=v:=congrArg Prod.snd e;have V:bl z t=k:=qB (by omega) (fun j O=>by have:=hs.lt j k O hk;omega) (fun j h1 U=>by
  rcases A6 k j with h3 | h3
  ·have:=hs.lt k j h3 U;omega
  ·obtain rfl:j=k:=by omega
   omega)
 unfold xu;rw[Y,f8,V,e2]
theorem aiF{z:D}(h:aN z=true){t:Int}(hn:∀a∈prs z,a.1≠t):(xu z t).int = -1:=by
 have O:bsB z t=false:=by rw[<- D6,aay h];rintro⟨a,J,e⟩;exact hn a J e
 unfold xu;rw[O];rfl
def ajB(z:D)(r:b8):Bool:=leI 0 (r 1).int && !Fo (prs z) (r 0).int
theorem BS{z:D}(h:aN z=true)(r:b8):(leI 0 (r 1).int&&ltI (xu z (r 0).int).int 0)=ajB z r:=by
 unfold ajB
 congr 1
 cases hk:Fo (prs z) (r 0).int with
 | true =>obtain⟨a,J,e⟩:=mP.1 hk;have hv:=agj (t:=(r 0).int) (v:=a.2) h (by rw[<- e];exact J);have:=((dq z).1 h).1 a J;rw[hv];exact gh (by omega)
 | false =>rw[aiF h fun a J e=>by have:=mP.2 ⟨a,J,e⟩;rw[hk] at this;cases this];rfl
theorem EZ{C E:Nat->Bool}:∀k,(∀j,j<k->C j=E j)->cnt C 0 k=cnt E 0 k
 | 0,_=>rfl
 | k+1,h=>by rw[im,im,EZ k fun j J=>h j (by omega),i9,h k (by omega)]
section
variable {z ws:D} (hz:aN z=true) (hw:aO ws=true)
include hz hw
theorem yu:∀j,j<=ws.rows.length->(∀m,m∈prs (wrD z ws j)↔(∃i,i<j/\0<=(gd (ws.rows.getD i []) 1).int/\m=((gd (ws.rows.getD i []) 0).int,(gd (ws.rows.getD i []) 1).int))\/(m∈prs z/\∀i,i<j->m.1≠(gd (ws.rows.getD i []) 0).int)) /\
  upL (prs (wrD z ws j))/\(wrD z ws j).rows.length<=z.rows.length+cnt (ki z ws) 0 j
 | 0,_=>by
  refine⟨fun m=>⟨fun h=>.inr ⟨h,fun i hi=>by omega⟩,fun h=>?_⟩,?_,g8 _⟩
  ·rcases h with⟨i,hi,_⟩ | h
   ·omega
   ·exact h.1
  ·have:=(dq z).1 hz;exact⟨this.2.1,fun a O=>(this.1 a O).1⟩
 | j+1,hj=>by
  obtain⟨Z,i2,i3⟩:=yu j (by omega);obtain⟨w0,w1,w2⟩:=(pt ws).1 hw;have U:∀i,i<j->(gd (ws.rows.getD i []) 0).int<(gd (ws.rows.getD j []) 0).int:=fun i hi=>sP (f:=fun k=>(gd (ws.rows.getD k []) 0).int) (ui.1 w2) j i hi (by omega)
  have Y:=w1 _ (p9 (show j<ws.rows.length by omega));rw[<- aU (show j<ws.rows.length by omega)] at Y;have a0:0<=(gd (ws.rows.getD j []) 0).int/\(gd (ws.rows.getD j []) 0).int<=999:=by have:=Y.1;simp only[inB,a9,f7] at this;exact this
  have e:prs (wrD z ws (j+1))=pT (prs (wrD z ws j)) (gd (ws.rows.getD j []) 0).int (gd (ws.rows.getD j []) 1).int (leI 0 (gd (ws.rows.getD j []) 1).int):=Do _;have hk:Fo (prs (wrD z ws j)) (gd (ws.rows.getD j []) 0).int=Fo (prs z) (gd (ws.rows.getD j []) 0).int:=by
   rw[p7,mP,mP];constructor
   ·rintro⟨a,O,h⟩;rcases (Z a).1 O with⟨i,hi,_,rfl⟩ | ⟨O,_⟩
    ·have:=U i hi;have h:(gd (ws.rows.getD i []) 0).int=_:=h;omega
    ·exact⟨a,O,h⟩
   ·rintro⟨a,O,h⟩;refine⟨a,(Z a).2 (.inr ⟨O,fun i hi=>?_⟩),h⟩;have:=U i hi;omega
  have hl:=adQ (prs (wrD z ws j)) (gd (ws.rows.getD j []) 0).int (gd (ws.rows.getD j []) 1).int (leI 0 (gd (ws.rows.getD j []) 1).int);rw[<- e,hk,dF,dF] at hl;have hc:cnt (ki z ws) 0 (j+1)=cnt (ki z ws) 0 j+(bif leI 0 (gd (ws.rows.getD j []) 1).int && !Fo (prs z) (gd (ws.rows.getD j []) 0).int then 1 else 0):=by rw[im,i9];have:=BS hz (ws.rows.getD j []);unfold ki;rw[this];rfl
  refine⟨fun m=>?_,?_,by rw[hc];omega⟩
  ·rw[e,agd,Z];simp only[leI,f7];constructor
   ·rintro (⟨h1,J⟩ | ⟨⟨i,hi,h1,J⟩ | ⟨h1,J⟩,h3⟩)
    ·exact .inl ⟨j,by omega,h1,J⟩
    ·exact .inl ⟨i,by omega,h1,J⟩
    ·refine .inr ⟨h1,fun i hi=>?_⟩;by_cases V:i=j
     ·rw[V];exact h3
     ·exact J i (by omega)
   ·rintro (⟨i,hi,h1,J⟩ | ⟨h1,J⟩)
    ·by_cases V:i=j
     ·subst V;exact .inl ⟨h1,J⟩
     ·refine .inr ⟨.inl ⟨i,by omega,h1,J⟩,?_⟩;have:=U i (by omega);rw[J];show (gd (ws.rows.getD i []) 0).int≠_;omega
    ·exact .inr ⟨.inr ⟨h1,fun i hi=>J i (by omega)⟩,J j (by omega)⟩
  ·rw[e];exact SP i2 a0 _ _
theorem yn(m:Int × Int):m∈prs (wrD z ws ws.rows.length)↔(∃r∈ws.rows,0<=(r 1).int/\m=((r 0).int,(r 1).int))\/(m∈prs z/\∀r∈ws.rows,m.1≠(r 0).int):=by
 rw[(yu hz hw ws.rows.length (g8 _)).1];constructor
 ·rintro (⟨i,hi,h1,J⟩ | ⟨h1,J⟩)
  ·rw[aU hi] at h1 J;exact .inl ⟨_,p9 hi,h1,J⟩
  ·refine .inr ⟨h1,fun r O=>?_⟩;obtain⟨k,hk,rfl⟩:=n9 O;have:=J k hk
   rwa [aU hk] at this
 ·rintro (⟨r,O,h1,J⟩ | ⟨h1,J⟩)
  ·obtain⟨k,hk,rfl⟩:=n9 O;exact .inl ⟨k,hk,by rw[aU hk];exact h1,by rw[aU hk];exact J⟩
  ·exact .inr ⟨h1,fun i hi=>by rw[aU hi];exact J _ (p9 hi)⟩
theorem afD:bi z ws=(cnt (ki z ws) 0 ws.rows.length:Int):=by unfold bi;rw[hz,hw];rfl
theorem QZ:(wrD z ws ws.rows.length:Int)<=z.rows.length+bi z ws:=by have:=(yu hz hw ws.rows.length (g8 _)).2.2;rw[afD hz hw];omega
theorem WP(Y:(z:Int)+bi z ws<=60):aN (wrD z ws ws.rows.length)=true:=by
 have h1:=QZ hz hw;obtain⟨w0,w1,Z⟩:=(pt ws).1 hw;have O:=(yu hz hw ws.rows.length (g8 _)).2.1;refine (dq _).2 ⟨fun a U=>?_,O.1,by omega⟩;rcases (yn hz hw a).1 U with⟨r,V,J,rfl⟩ | ⟨J,_⟩
 ·have:=w1 r V;simp only[inB,a9,f7] at this;show (0<=(r 0).int/\(r 0).int<=999)/\(0<=(r 1).int/\(r 1).int<=1000000000);omega
 ·exact ((dq z).1 hz).1 a J
theorem adq(Y:(z.rows.length:Int)+bi z ws<=60){w:D}(O:∀a∈w.rows,∀r∈ws.rows,(gd a 0).int≠(gd r 0).int):bi (wrD z ws ws.rows.length) w=bi z w:=by
 have U:=WP hz hw Y;unfold bi;rw[U,hz];cases aO w with
 | false=>rfl
 | true =>
  rw[f8,f8,f8]
  congr 1
  refine EZ _ fun j V=>?_
  unfold ki;rw[BS U,BS hz];unfold ajB
  congr 2
  rw[p7,mP,mP];have hn:=O _ (by rw[aU V];exact p9 V:w.rows.getD j []∈w.rows);constructor
  ·rintro⟨a,J,e⟩;rcases (yn hz hw a).1 J with⟨x,hx,_,rfl⟩ | ⟨h3,_⟩
   ·exact absurd e.symm (hn x hx)
   ·exact⟨a,h3,e⟩
  ·rintro⟨a,J,e⟩;exact⟨a,(yn hz hw a).2 (.inr ⟨J,fun r Z=>by rw[e];exact hn r Z⟩),e⟩
end
theorem dS{l n:D}{a:b8}{m:D}:holds l n a m=true↔∃r∈l.rows,ld r n a m=true:=aht (z:=l) (C:=fun r=>ld r n a m)
theorem xb{r:b8}{n:D}{a:b8}{m:D}(h:ld r n a m=true):(r 0).int=n.int:=by unfold ld at h;rw[a9,p6] at h;exact h.1
theorem TW{L K:List b8}(e:L.map nrm=K.map nrm){r:b8}(h:r∈L):∃x∈K,nrm x=nrm r:=by have:nrm r∈K.map nrm:=e▸y4.2 ⟨r,h,rfl⟩;exact y4.1 this
theorem ahU{r x:b8}(e:nrm x=nrm r):(x 0).int=(r 0).int/\(x 1).int=(r 1).int/\(x 2).int=(r 2).int/\(x 3).int=(r 3).int:=by
 unfold nrm at e;injection e with e0 e
 injection e with e1 e
 injection e with e2 e
 injection e with e3 e
 exact⟨congrArg D.int e0,congrArg D.int e1,congrArg D.int e2,congrArg D.int e3⟩
theorem PX{r x:b8}(e:nrm x=nrm r)(n:D)(a:b8)(m:D):ld r n a m=ld x n a m:=by obtain⟨J,e1,e2,e3⟩:=ahU e;unfold ld ff ar;show ((r 0).int==n.int&&((bif ar (sub a 0 2) then bif decide ((r 1).int>=0)&&(decide ((r 1).int<(r 2).int)&&decide ((r 2).int<=1000)) then bif leI (r 1).int (a 0).int then leI (a 1).int (r 2).int else false else false else false)&&leI m.int (r 3).int))=_;rw[<- J,<- e1,<- e2,<- e3];rfl
theorem ahb{z:D}{x y:b8}(J:(x 0).int=(y 0).int)(e1:(x 1).int=(y 1).int):ax z x=ax z y:=by
 have U:∀k,(cH z (x 0) k).int=(cH z (y 0) k).int:=fun k=>by
  induction k with
  | zero=>exact J
  | succ k O =>
   rw[cH,cH,O];cases leI (z k 0).int (cH z (y 0) k).int&&ltI (cH z (y 0) k).int (z k 1).int with
   | true=>rfl
   | false=>exact O
 unfold ax ca ar;rw[U,J,e1]
theorem akl{o w e:D}{L:D}{K:List b8}(Y:L.rows.map nrm=K.map nrm)(U:∀r∈K,LOk o w e r){r:b8}(O:r∈L.rows):LOk o w e r:=by obtain⟨x,V,ex⟩:=TW Y O;obtain⟨J,e1,e2,_⟩:=ahU ex;have h:=U x V;refine⟨?_,J▸h.nw,J▸h.ne⟩;rw[ahb (x:= [r 1,r 2]) (y:= [x 1,x 2]) e1.symm e2.symm];exact h.rg
theorem agi{O x1 Y U L l Z x6 V x8:D}(e:l.rows.map nrm=L.rows.map nrm)(s:SOk [O,x1,Y,U,L,Z,x6,V,x8]):SOk [O,x1,Y,U,l,Z,x6,V,x8]:=
 ⟨s.me,s.own,s.frz,s.st,(qH e).trans s.lk,s.rk,s.w,s.w1,s.e,s.e1,s.fr,s.ce,fun r J=>akl (L:=l) e s.lo J,s.we,s.h,fun r J =>
  have h:=s.h1 r J
  ⟨h.tx,h.ws,fun v hv=>by obtain⟨y,hy,h2⟩:=dS.1 (h.lk v hv);obtain⟨x,hx,ex⟩:=TW e.symm hy;exact dS.2 ⟨x,hx,(PX ex.symm _ _ _).trans h2⟩,h.nw,h.ne⟩,s.sum⟩
theorem Tx{p:b8}(hsh:SOk (sub p 0 9)){F L W R:D}{K:List b8}(eL:L.rows.map nrm=K.map nrm)(hF:aV F=true)(a1:∀r∈F.rows,ax (p 1) (sub r 0 2)=true)
  (hL:aR L=true) (Y:∀r∈K,LOk (p 1) W (p 7) r) (hk:∀r∈(p 4).rows,(r 0).int∈ai (p 5)->r∈K) (hW:(ai W).Pairwise (· < ·))
  (U:∀m∈ai W,m∈ai (p 6)\/((∃r∈(p 4).rows,(r 0).int=m)/\m ∉ ai (p 5))) (hR:inB R.int 0 1000000=true) :
  SOk [p 0,.l (p 1).rows,F,.l (p 3).rows,L,dpS p 5,W,.l (p 7).rows,R]:=by
 have s:=gF hsh;have a2:∀r∈(p 4).rows,LOk (p 1) (p 6) (p 7) r:=hsh.lo;have Z:∀m∈ai (p 6),m ∉ ai (p 7):=hsh.we;have a3:=((bU (p 4)).1 hsh.lk).1;have a0:∀r∈(dpS p 5).rows,HOk (.l (p 4).rows) (.l (p 6).rows) (.l (p 7).rows) r:=s.h1;refine⟨s.me,s.own,hF,s.st,hL,hR,hW,fun r J=>?_,s.e,s.e1,fun r J=>(IR _ _).trans (a1 r J),s.ce,fun r J=>akl (e:=.l (p 7).rows) eL (fun r J=>⟨(IR _ _).trans (Y r J).rg,(Y r J).nw,(Y r J).ne⟩) J,fun m V=>?_,s.h,fun r J=>?_,s.sum⟩
 ·rcases U _ ((cK _ _).2 ⟨r,J,rfl⟩) with h | ⟨⟨x,O,h⟩,_⟩
  ·obtain⟨x,O,h⟩:=(cK _ _).1 h;rw[<- h];exact hsh.w1 x O
  ·rw[<- h];have:=a3 x O;simp only[jX,a9] at this;exact this.1
 ·rcases U m V with h | ⟨⟨x,O,h⟩,_⟩
  ·exact Z m h
  ·rw[<- h];exact (a2 x O).ne
 ·have H:=a0 r J;have V:(r 0).int∈ai (p 5):=by
   have:(r 0).int∈ai (dpS p 5):=(cK _ _).2 ⟨r,J,rfl⟩;have e:ai (dpS p 5)=ai (p 5):=by show ai (ddS (sub p 0 9) 5)=_;rw[fd];unfold ai;rw[bp,A7];rfl
   rwa [e] at this
  refine⟨H.tx,H.ws,fun v hv=>?_,fun hw=>?_,H.ne⟩
  ·obtain⟨y,hy,h⟩:=dS.1 (H.lk v hv);have h0:=xb h;obtain⟨x,O,ex⟩:=TW eL.symm (hk y hy (h0▸V));exact dS.2 ⟨x,O,(PX ex.symm _ _ _).trans h⟩
  ·rcases U _ hw with h | ⟨_,h⟩
   ·exact H.nw h
   ·exact h V
theorem adH{l h n m:D}{a:b8}(Y:bv [l] [h] [n] (sub a 0 2) [m]=true)(O:(cd l h n a m 2).int≠2)(J:(cd l h n a m 2).int≠3) :
  (bQ l n (sub a 0 2) m=true/\cd l h n a m = [.l l.rows,.l [],.i 0]) \/
  ((∀x,x ∉ ai (clW l h (bD n a m)))/\((cf l (bD n a m):Int)==40)=false/\cd l h n a m = [.l ((cf l (bD n a m)).rows ++ [bD n a m]),clA l (bD n a m),.i 0]):=by
 unfold cd at O J ⊢;rw[Y] at O J ⊢;simp only[l8,f5] at O J ⊢;cases Z:bQ l n (sub a 0 2) m with
 | true=>exact .inl ⟨rfl,rfl⟩
 | false =>
  rw[Z] at O J;simp only[f5] at O J ⊢;cases U:ltI 0 (clW l h (bD n a m)) with
  | true=>rw[U] at O;exact absurd rfl O
  | false =>
   rw[U] at J;simp only[f5] at J ⊢;cases hn:(cf l (bD n a m):Int)==40 with
   | true=>rw[hn] at J;exact absurd rfl J
   | false =>refine .inr ⟨fun x V=>?_,rfl,rfl⟩;have:=(Xc _).2 ⟨x,V⟩;rw[show ltI 0 (clW l h (bD n a m))=true from gJ (by omega)] at U;cases U
structure LK(p:b8)(n:D)(Q:b8->Prop)(L W:D):Prop where
 lk:aR L=true
 w:(ai W).Pairwise (· < ·)
 w0:∀m∈ai (p 6),m∈ai W
 w1:∀m∈ai W,m∈ai (p 6)\/((∃r∈(p 4).rows,(r 0).int=m)/\m≠n.int/\aA (aB (p 5)) m=false)
 l:∀r∈L.rows,(r∈(p 4).rows\/Q r)/\(r 0).int ∉ ai W
 keep:∀h,h≠n.int->aA (aB (p 5)) h=true->L.rows.filter (fun r=>(r 0).int==h)=(p 4).rows.filter fun r=>(r 0).int==h
theorem LK.zero{p:b8}(hsh:aY (sub p 0 9)=true)(n:D)(Q:b8->Prop):LK p n Q (.l (p 4).rows) (.l (p 6).rows):=by
 have s:=(cQ _).1 hsh;have U:∀r∈(p 4).rows,(r 0).int ∉ ai (p 6):=fun r J=>(s.lo r J).nw
 exact⟨s.lk,s.w,fun m O=>O,fun m O=>.inl O,fun r J=>⟨.inl J,U r J⟩,fun _ _ _=>rfl⟩
theorem LK.has{p:b8}{n:D}{Q:b8->Prop}{L W:D}(I:LK p n Q L W){r:b8}(O:r∈(p 4).rows)(J:(r 0).int≠n.int)(h:aA (aB (p 5)) (r 0).int=true):r∈L.rows:=by
 have:r∈L.rows.filter fun x=>(x 0).int==(r 0).int:=by rw[I.keep _ J h];exact t8.2 ⟨O,n8 _⟩
 exact (t8.1 this).1
theorem adD{n:D}{a:b8}{m:Int}(J:ar (sub a 0 2)=true):ld (bD n a (.i m)) n a (.i m)=true:=by unfold ld ff;have O:ar (sub [bD n a (.i m) 1,bD n a (.i m) 2] 0 2)=true:=J;have Y:leI (gd [bD n a (.i m) 1,bD n a (.i m) 2] 0).int (a 0).int=true:=bb (F8 _);have U:leI (a 1).int (gd [bD n a (.i m) 1,bD n a (.i m) 2] 1).int=true:=bb (F8 _);have V:leI (D.i m).int (bD n a (.i m) 3).int=true:=bb (F8 _);rw[J,O,Y,U,V,show (bD n a (.i m) 0).int=n.int from rfl,n8];rfl
theorem LK.ask{p:b8}{n:D}{Q:b8->Prop}{L W:D}{a:b8}{m:Int}(I:LK p n Q L W)(hR:bv [L] [aB (p 5)] [n] (sub a 0 2) [.i m]=true)(J:(.i m:D)=.i 2\/(.i m:D)=.i 1)(hQ:∀r,Q r->(r 0).int=n.int)(hq:Q (bD n a (.i m)))(hn6:n.int ∉ ai (p 6))
  (g2:(cd L (aB (p 5)) n a (.i m) 2).int≠2) (g3:(cd L (aB (p 5)) n a (.i m) 2).int≠3) :
  LK p n Q (cd L (aB (p 5)) n a (.i m) 0) (gr W (cd L (aB (p 5)) n a (.i m) 1) (cd L (aB (p 5)) n a (.i m) 1).rows.length) /\
  holds (cd L (aB (p 5)) n a (.i m) 0) n a (.i m)=true/\∀b k,holds L n b k=true->holds (cd L (aB (p 5)) n a (.i m) 0) n b k=true:=by
 have U:=hR;rw[kQ] at U;simp only[a9] at U;have ha:ar (sub a 0 2)=true:=U.2.2.2.1;have a0:=agx hR;rcases adH hR g2 g3 with⟨hh,e⟩ | ⟨hw,h40,e⟩
 ·rw[e] at a0 ⊢;refine⟨⟨I.lk,I.w,I.w0,I.w1,I.l,I.keep⟩,?_,fun b k h=>h⟩;rcases J with J | J <;> rw[J] at hh ⊢
  ·exact (FH (tx:=n) I.lk ha).trans hh
  ·exact (Ad (tx:=n) I.lk ha).trans hh
 ·rw[e] at a0 ⊢;show LK p n Q (.l ((cf L (bD n a (.i m))).rows ++ [bD n a (.i m)])) (gr W (clA L (bD n a (.i m))) (clA L (bD n a (.i m))).rows.length)/\_;have a0:aR (.l ((cf L (bD n a (.i m))).rows ++ [bD n a (.i m)]))=true:=a0;have a5:(bD n a (.i m) 0).int=n.int:=rfl;have V:∀O,O∈ai (clA L (bD n a (.i m)))->∃r∈L.rows,cA (bD n a (.i m)) r=true/\(r 0).int=O:=fun O J=>(BF _ _ O).1 J
  have a4:∀r,r∈(cf L (bD n a (.i m))).rows↔r∈L.rows/\(r 0).int ∉ ai (clA L (bD n a (.i m))):=fun r=>by rw[lK,t8,m6,jC]
  have a6:n.int ∉ ai (clA L (bD n a (.i m))):=fun J=>by obtain⟨r,_,h1,Y⟩:=V _ J;exact Xv h1 (Y.trans a5.symm)
  obtain⟨q1,q2⟩:=oF (t:=clA L (bD n a (.i m))) I.w _ (g8 _);rw[z9 (show (ai (clA L (bD n a (.i m)))).length<=(clA L (bD n a (.i m))).rows.length by rw[bR];exact g8 _)] at q2;have a3:∀O,O∈ai (clA L (bD n a (.i m)))->aA (aB (p 5)) O=false:=fun O J=>by
   obtain⟨r,U,h1,Y⟩:=V _ J;cases hh:aA (aB (p 5)) O with
   | false=>rfl
   | true=>exact absurd ((RU _ _ _ O).2 ⟨r,U,by rw[h1,Y,hh,K3];rfl,Y⟩) (hw O)
  refine⟨⟨a0,q1,fun O J=>(q2 O).2 (.inl (I.w0 O J)),fun O J=>?_,fun r U=>?_,fun h Z hq=>?_⟩,dS.2 ⟨_,H3 _ (n4.2 rfl),adD ha⟩,fun b k hb=>?_⟩
  ·rcases (q2 O).1 J with J | J
   ·exact I.w1 O J
   ·obtain⟨r,U,h1,Y⟩:=V _ J;have Z:O≠n.int:=fun e=>a6 (e▸J)
    rcases (I.l r U).1 with h4 | h4
    ·exact .inr ⟨⟨r,h4,Y⟩,Z,a3 O J⟩
    ·exact absurd (Y.symm.trans (hQ r h4)) Z
  ·rcases m7.1 U with U | U
   ·obtain⟨h1,Y⟩:=(a4 r).1 U;obtain⟨a1,a2⟩:=I.l r h1;exact⟨a1,fun J=>((q2 _).1 J).elim a2 Y⟩
   ·rw[n4.1 U];refine⟨.inr hq,fun J=>?_⟩;rw[a5] at J;rcases (q2 _).1 J with J | J
    ·rcases I.w1 _ J with h1 | ⟨_,h1,_⟩
     ·exact hn6 h1
     ·exact h1 rfl
    ·exact a6 J
  ·show ((cf L (bD n a (.i m))).rows ++ [bD n a (.i m)]).filter _=_;rw[C0,lK,H0,<- I.keep h Z hq];have e : [bD n a (.i m)].filter (fun r=>(r 0).int==h) = []:=by rw[List.filter_cons_of_neg (by rw[a5,p6];exact fun e=>Z e.symm)];rfl
   rw[e,B9];refine D7 fun x _=>?_
   cases hx:(x 0).int==h with
   | false=>rfl
   | true =>rw[p6.1 hx,s8,m6,jC];intro J;rw[a3 _ J] at hq;cases hq
  ·obtain⟨r,U,h1⟩:=dS.1 hb;refine dS.2 ⟨r,I3 _ ((a4 r).2 ⟨U,?_⟩),h1⟩;rw[xb h1];exact a6
def AQ(n u:D)(r:b8):Prop:=∃j,j<u.rows.length/\r=bD n (dV u j) (.i 2)
section
variable {p:b8} {n u:D} (hsh:aY (sub p 0 9)=true) (hin:inB n.int 1 60=true) (hwo:aO u=true) (hn6:n.int ∉ ai (p 6))
include hsh hin hwo hn6
theorem WH:∀k,k<=u.rows.length->(bK p n u (.i 0) k).2.2.int=0->LK p n (AQ n u) (bK p n u (.i 0) k).1 (bK p n u (.i 0) k).2.1/\∀j,j<k->holds (bK p n u (.i 0) k).1 n (dV u j) (.i 2)=true
 | 0,_,_=>⟨.zero hsh n _,fun j Z=>absurd Z (D5 j)⟩
 | k+1,hk,h0=>by
  have U:(bK p n u (.i 0) k).2.2.int=0:=by apply Classical.byContradiction;intro O;have:=oW p n u (.i 0) (k:=k) (v8.2 O) 1;rw[this] at h0;exact O h0
  obtain⟨I,V⟩:=WH k (by omega) U;have hR:=LV hsh hin hwo I.lk (show k<u.rows.length by omega);have J:(bK p n u (.i 0) (k+1))=(bif (cd (bK p n u (.i 0) k).1 (aB (p 5)) n (dV u k) (.i 2) 2).int==2 then ((bK p n u (.i 0) k).1,(bK p n u (.i 0) k).2.1,.i 5)
   else bif (cd (bK p n u (.i 0) k).1 (aB (p 5)) n (dV u k) (.i 2) 2).int==3 then ((bK p n u (.i 0) k).1,(bK p n u (.i 0) k).2.1,.i 6)
   else (cd (bK p n u (.i 0) k).1 (aB (p 5)) n (dV u k) (.i 2) 0,gr (bK p n u (.i 0) k).2.1 (cd (bK p n u (.i 0) k).1 (aB (p 5)) n (dV u k) (.i 2) 1) (cd (bK p n u (.i 0) k).1 (aB (p 5)) n (dV u k) (.i 2) 1).rows.length,.i 0)):=by
   rw[bK,U,BI];rfl
  rw[J] at h0 ⊢;generalize (bK p n u (.i 0) k).1=L at *;generalize (bK p n u (.i 0) k).2.1=W at *;have Y:(cd L (aB (p 5)) n (dV u k) (.i 2) 2).int≠2:=fun e=>by rw[e] at h0;exact absurd h0 (by show ¬(5:Int)=0;decide)
  have g3:(cd L (aB (p 5)) n (dV u k) (.i 2) 2).int≠3:=fun e=>by rw[e] at h0;exact absurd h0 (by show ¬(6:Int)=0;decide)
  rw[v8.2 Y,v8.2 g3,f5,f5];obtain⟨i1,i2,i3⟩:=I.ask hR (.inl rfl) (fun r ⟨_,_,e⟩=>e▸rfl) ⟨k,by omega,rfl⟩ hn6 Y g3;refine⟨i1,fun j Z=>?_⟩;by_cases e:j=k
  ·rw[e];exact i2
  ·exact i3 _ _ (V j (by omega))
end
theorem xg(c:D)(a b:List b8):ev c (a++b)=ev c a+ev c b:=by unfold ev;rw[u9,List.sum_append]
theorem amb{h n v:D}(hs:(ai h).Pairwise (· < ·))(hn:n.int ∉ ai h):(ai (jP h (bl (aB h) n.int:Int) (.l [[n,v]]))).Pairwise (· < ·):=by
 have hz:(ai (aB h)).Pairwise (· < ·):=by
  have:ai (aB h)=ai h:=by unfold ai aB;rw[bp,A7];rfl
  rw[this];exact hs
 obtain⟨l1,l2,l3⟩:=Kn hz n.int;have V:(aB h).rows.length=h.rows.length:=m9 ..;rw[V] at l1 l3;have O:∀k,k<h.rows.length->bI (aB h) k=(gd (h.rows.getD k []) 0).int:=fun k hk=>by show (gd ((h.rows.map fun r => [gd r 0]).getD k []) 0).int=_;rw[f9,u6,g6 hk,aU hk];rfl
 generalize bl (aB h) n.int=i at *;have e:ai (jP h (i:Int) (.l [[n,v]]))=(ai h).take i ++ [n.int]++(ai h).drop i:=by unfold ai jP;rw[bp,u9,u9,M7,M8,g4];rfl
 rw[e];have Z:∀a∈(ai h).take i,a<n.int:=fun a J=>by obtain⟨k,hk,rfl⟩:=n9 J;rw[s9,bR] at hk;rw[J8];obtain⟨_,e1⟩:=g5.1 (cP h k (by omega));rw[e1,<- O k (by omega)];exact l2 k (by omega)
 have Y:∀a∈(ai h).drop i,n.int<a:=fun a J=>by
  obtain⟨k,hk,rfl⟩:=n9 J;rw[t5,bR] at hk;rw[J9];obtain⟨_,e1⟩:=g5.1 (cP h (i+k) (by omega));rw[e1];have h1:=l3 (i+k) (by omega) (by omega);rw[O _ (by omega)] at h1;have h2:(gd (h.rows.getD (i+k) []) 0).int≠n.int:=fun e2=>hn ((cK _ _).2 ⟨h.rows.getD (i+k) [],by rw[aU (by omega)];exact p9 _,e2⟩)
  omega
 refine C1.2 ⟨C1.2 ⟨hs.sublist (List.take_sublist _ _),I9 _ _,fun a J b U=>?_⟩,hs.sublist (List.drop_sublist _ _),fun a J b U=>?_⟩
 ·rw[n4.1 U];exact Z a J
 ·rcases m7.1 J with J | J
  ·have:=Z a J;have:=Y b U;omega
  ·rw[n4.1 J];exact Y b U
theorem akc{h:D}{i:Int}{v r:b8}:r∈(jP h i (.l [v])).rows↔r∈h.rows\/r=v:=by
 show r∈h.rows.take i.toNat ++ [v]++h.rows.drop i.toNat↔_;rw[m7,m7,n4];constructor
 ·rintro ((h1 | h1) | h1)
  ·exact .inl (K0 h1)
  ·exact .inr h1
  ·exact .inl (B7 h1)
 ·rintro (h1 | h1)
  ·rw[<- F4 i.toNat h.rows,m7] at h1;rcases h1 with h1 | h1
   ·exact .inl (.inl h1)
   ·exact .inr h1
  ·exact .inl (.inr h1)
theorem aiL(c:D)(h:D)(i:Int)(v:b8):ev c (jP h i (.l [v])).rows=ev c h.rows+bi c (v 1):=by
 show ev c (h.rows.take i.toNat ++ [v]++h.rows.drop i.toNat)=_;rw[xg,xg];have:ev c h.rows=ev c (h.rows.take i.toNat)+ev c (h.rows.drop i.toNat):=by rw[<- xg,F4]
 have e:ev c [v]=bi c (v 1):=by simp[ev]
 rw[this,e];omega
abbrev amz(p:b8)(n u L W:D):b8:= [dpS p 0,dpS p 1,dpS p 2,dpS p 3,L,jP (dpS p 5) (bl (aB (dpS p 5)) n.int:Int) (.l [[n,.l u.rows]]),W,dpS p 7,dpS p 8,.i 0]
structure aml(p:b8)(n u L W:D):Prop where
 nh:fV (p 5) n.int=false
 n6:n.int ∉ ai (p 6)
 n7:n.int ∉ ai (p 7)
 free:kM p u=true
 room:ltI 60 (w64 (ii (sub p 0 9)+bi (p 3) u))=false
 inv:LK p n (AQ n u) L W
 new:∀j,j<u.rows.length->holds L n (dV u j) (.i 2)=true
theorem mO(p:b8):ai (ddS p 5)=ai (p 5):=by rw[fd];unfold ai;rw[bp,A7];rfl
theorem abW(c:D)(p:b8):ev c (ddS p 5).rows=ev c (p 5).rows:=by rw[fd];unfold ev;rw[bp,A7];rfl
theorem ajl{p:b8}(s:SOk (sub p 0 9)){u:D}(h:ltI 60 (w64 (ii (sub p 0 9)+bi (p 3) u))=false):(p 3:Int)+ev (p 3) (p 5).rows+bi (p 3) u<=60:=by
 have h1:=oC (p 3) (p 5) (p 5).rows.length;have O:=qr (p 3) u;have V:(p 5).rows.length<=60:=pf (z:=sub p 0 9 5) s.h fun r J=>(s.h1 r J).tx
 have U:(p 3).rows.length<=60:=((dq _).1 s.st).2.2;have e:ii (sub p 0 9)=(p 3:Int)+ev (p 3) (p 5).rows:=by show (p 3:Int)+dD (p 3) (p 5) (p 5).rows.length=_;rw[zL]
 rw[zL] at h1;rw[e,br (by omega) (by omega)] at h;simp only[ltI,y6] at h;omega
theorem alV{p:b8}{n u L W:D}(hsh:aY (sub p 0 9)=true)(hin:inB n.int 1 60=true)(hwo:aO u=true)(N:aml p n u L W):SOk (sub (amz p n u L W) 0 9):=by
 have s:=(cQ _).1 hsh;have I:=N.inv;have a4:=((bU (p 4)).1 s.lk).1;have Z:∀r∈(p 4).rows,LOk (p 1) (p 6) (p 7) r:=s.lo;have a3:∀r∈(p 5).rows,HOk (p 4) (p 6) (p 7) r:=s.h1;have a2:∀m∈ai (p 6),m ∉ ai (p 7):=s.we;have a0:∀j,j<u.rows.length->ax (p 1) (dV u j)=true:=fun j V=>by have:=N.free;unfold kM at this;have:=i6.1 this j (m0.2 V);unfold pd at this;exact (a9 _ _▸this:_/\_).1
 have a1:n.int ∉ ai (p 5):=fun U=>by have:=gD.2 U;rw[N.nh] at this;cases this
 refine⟨s.me,s.own,s.frz,s.st,I.lk,s.rk,I.w,fun r J=>?_,s.e,s.e1,fun r J=>(IR _ _).trans (s.fr r J),fun r J=>(IR _ _).trans (s.ce r J),fun r J=>?_,fun m U=>?_,?_,fun r J=>?_,?_⟩
 ·have U:(r 0).int∈ai W:=(cK _ _).2 ⟨r,J,rfl⟩;rcases I.w1 _ U with h | ⟨⟨x,O,h⟩,_⟩
  ·obtain⟨x,O,h⟩:=(cK _ _).1 h;rw[<- h];exact s.w1 x O
  ·rw[<- h];have:=a4 x O;simp only[jX,a9] at this;exact this.1
 ·obtain⟨h1,h2⟩:=I.l r J;rcases h1 with h1 | ⟨j,V,rfl⟩
  ·exact⟨(IR _ _).trans (Z r h1).rg,h2,(Z r h1).ne⟩
  ·exact⟨(IR _ _).trans (a0 j V),h2,N.n7⟩
 ·rcases I.w1 m U with h | ⟨⟨x,O,h⟩,_⟩
  ·exact a2 m h
  ·rw[<- h];exact (Z x O).ne
 ·exact amb (by rw[mO];exact s.h) (by rw[mO];exact a1)
 ·rcases akc.1 J with J | rfl
  ·rw[fd] at J;obtain⟨x,O,rfl⟩:=y4.1 J;have O:x∈(p 5).rows:=O;have H:=a3 x O;have Y:aA (aB (p 5)) (x 0).int=true:=by rw[lY,gD,cK];exact⟨x,O,rfl⟩
   refine⟨H.tx,H.ws,fun v hv=>?_,fun U=>?_,H.ne⟩
   ·obtain⟨r,J,h⟩:=dS.1 (H.lk v hv);exact dS.2 ⟨r,I.has J (fun e=>a1 ((cK _ _).2 ⟨x,O,(xb h).symm.trans e⟩)) (by rw[xb h];exact Y),h⟩
   ·rcases I.w1 _ U with h | ⟨_,_,h⟩
    ·exact H.nw h
    ·have h:aA (aB (p 5)) (x 0).int=false:=h;rw[Y] at h;cases h
  ·refine⟨hin,hwo,fun v hv=>?_,fun U=>?_,N.n7⟩
   ·obtain⟨j,V,rfl⟩:=n9 hv;have V:j<u.rows.length:=V;have:=N.new j V;have e:dX (u.rows[j])=dV u j:=by rw[<- aU V];rfl
    show holds L n (dX (u.rows[j])) (.i 2)=true;rw[e];exact this
   ·rcases I.w1 _ U with h | ⟨_,h,_⟩
    ·exact N.n6 h
    ·exact h rfl
 ·have h1:=ajl s N.room;show (p 3:Int)+ev (p 3) (jP (dpS p 5) _ (.l [[n,.l u.rows]])).rows<=60;rw[aiL,abW];have e:bi (p 3) (gd [n,D.l u.rows] 1)=bi (p 3) u:=rfl;rw[e];show (p 3:Int)+(ev (p 3) (p 5).rows+bi (p 3) u)<=60;omega
set_option maxRecDepth 100000
set_option maxHeartbeats 4000000
abbrev qL:Value:=(.int .i64 0)
theorem Xx:∀w,(zeroValue 3).run f4 w=.ok qL w:=fun w=>Tryz.zeroValue3 w
theorem PL{w:World}{rows:List b8}{u:Value}{B:Option Nat}(hO:dg w 3 (jF 1) rows u B)(F:FuncId)(fa:Array Value)(C:b8->Bool)(hC:∀r,C r=C [.i (r 0).int])
  (k2:∀vs w,(callFunc F vs).run f4 w=.ok (.enter F vs) w)
  (a8:Calls f4 229 #[u,.func (.func F) #[] fa] w fun ex w'=>ex=.returned (.int .i64 (ixF (fun k=>C (rows.getD k [])) 0 rows.length))/\Below w.heap.size w w')
  (a7:∀(c2:World) (x0:Int),aI w c2 B->Calls f4 F (#[.int .i64 x0]++fa) c2 fun ex w'=>ex=.returned (.bool (C [.i x0]))/\Below c2.heap.size c2 w') :
  Calls f4 141 #[u,.func (.func F) #[] fa] w fun ex w'=>∃v' B',ex=.returned v'/\aI w w' B/\dg w' 3 (jF 1) (eC C rows) v' B'/\∀b,B'=some b->B=some b\/w.heap.size<=b:=by
 by_cases b6:ixF (fun k=>C (rows.getD k [])) 0 rows.length = -1
 ·rw[b6] at a8;have c6:eC C rows=rows:=by
   rcases je (fun k=>C (rows.getD k [])) rows.length 0 with⟨_,h⟩ | ⟨k,_,h,_⟩
   ·exact ur fun k hk=>by have:=h k hk;rwa [i9] at this
   ·rw[b6] at h;omega
  rw[c6];have HO:Hid _:=hO;clear hO a7 c6;go_enter Tryz.func141,Tryz.ntmps141
  go_wp2_with fail
  refine a8.mono ?_;rintro e w' ⟨rfl,J⟩
  go_wp2_with fail
  go_ret
  exact⟨u,B,rfl,aI.of_below B J,eF HO.out J,fun b J=>.inl J⟩
 ·obtain⟨Z,e9,a6,c9,e0⟩:∃Z:Nat,ixF (fun k=>C (rows.getD k [])) 0 rows.length=(Z:Int)/\Z<rows.length/\(∀k,k<Z->C (rows.getD k [])=false)/\C (rows.getD Z [])=true:=by
   rcases je (fun k=>C (rows.getD k [])) rows.length 0 with⟨h,_⟩ | ⟨k,h1,h2,h3,h4⟩
   ·exact absurd h b6
   ·simp only[i9] at h2 h3 h4;exact⟨k,h2,h1,h4,h3⟩
  rw[e9] at a8;obtain⟨b,cap,b5,rfl,rfl,i2,k1,hh,hs,hc⟩:∃(b cap:Nat) (b5:Array Value),B=some b/\u=.slice (some ⟨b,0,none⟩) rows.length cap/\rows.length<=cap/\cap<=9223372036854775807/\w.heap[b]?=some (.cells b5 3 (0,0))/\b5.size=cap*1 /\
    ∀i j,i<rows.length->j<1->b5[i*1+j]?=some (.int .i64 (rows.getD i [] j).int):=by
   rcases qG hO with⟨_,h0,_⟩ | h
   ·rw[h0] at a6;simp at a6
   ·exact h
  have HO:Hid _:=hO;have f1:Hid _:=a7;have h9:((Z:Int) == -1)=false:=v8.2 (by omega);have h6:Hid (KI C rows rows Z (Z+1)):=KI.start a6 c9 e0;have i4:b<w.heap.size:=aT hh;clear hO a7 hh hs hc c9 e0 b6 e9;go_enter Tryz.func141,Tryz.ntmps141
  go_wp2_with fail
  refine a8.mono ?_;rintro e w' ⟨rfl,J⟩;have f0:Hid _:=J;clear J
  go_wp2_with fail
  go_loopw [5,6] (fun s5 s6 wr=>∃(i j:Nat) (Y:List b8),s5=.int .i64 i/\s6=.int .i64 j/\Hid (aI w wr (some b))/\Hid (dg wr 3 (jF 1) Y (.slice (some ⟨b,0,none⟩) rows.length cap) (some b))/\Hid (KI C rows Y i j)) (fun _ s6 _=>rows.length - (intOf s6).toNat)
  case atStart=>exact⟨Z,Z+1,rows,rfl,by go_num,aI.of_below _ f0.out,eF HO.out f0.out,h6.out⟩
  case round =>
   obtain⟨i,j,Y,rfl,rfl,HC,a0,HK⟩:=hrel;have i1:=HK.out.lt;have i0:=HK.out.le;have g1:=HK.out.len;by_cases e7:j<rows.length
   ·have c7:(Y.getD j [])=rows.getD j []:=HK.out.rest j (g8 _);obtain⟨b0,_⟩:=dl a0.out (i:=j) (j:=0) (by omega) (by omega);obtain⟨c0,c1⟩:=dl a0.out (i:=i) (j:=0) (by omega) (by omega);simp only[I2,D4] at b0 c0 c1;have f3:b<wr.heap.size:=by have:=HC.out.size;omega
    rw[c7] at b0;have a5:=fun (x:World) (hx:Below wr.heap.size wr x)=>f1.out x (rows.getD j [] 0).int (HC.out.trans (aI.of_below _ hx) (fun b J=>.inl J))
    rw[<- hC] at a5;generalize e6:(rows.getD j [] 0).int=x0 at *;generalize (Y.getD i [] 0).int=o0 at *;have g2:Hid _:=e6;have O:Hid _:=a5;clear e6 a5 c7;cases hq:C (rows.getD j []) with
    | false =>
     have HQ:Hid _:=hq;rw[hq] at O;clear hq
     go_wp2_with fail
     refine (O.out _ (Below.refl _ _)).mono ?_;rintro e w2 ⟨rfl,V⟩;have h7:=V.size;have b4:w2.heap[b]?=wr.heap[b]?:=V.block b f3;have i3:w2.cell? ⟨b,i,none⟩=some (.int .i64 o0):=(bd b4 _).trans c0;have k4:w2.frozen? ⟨b,i,none⟩=false:=by rw[<- c1];unfold World.frozen?;simp only;rw[b4]
     have c5:Hid _:=V;have g3:Hid _:=b4;clear V b4 c0 c1 b0
     go_wp2_with fail
     have hA:Below wr.heap.size wr w2:=c5.out;have c8 : [Value.int .i64 x0]=vN 1 (rows.getD j []):=by rw[<- g2.out];rfl
     obtain⟨d1,d2,d3,d4,d5⟩:=bu b [Value.int .i64 x0] i w2;refine⟨⟨i+1,j+1,Y.set i (rows.getD j []),by go_num,by go_num,(show Hid _ from ?_),(show Hid _ from ?_),HK.out.keep e7 HQ.out⟩,by simp[intOf];omega⟩
     ·exact (HC.out.trans (aI.of_below _ hA) (fun b J=>.inl J)).trans ⟨d1,d2,d3,C5 d4.symm,fun k hk c3=>d5 k (fun e=>c3 (by rw[e]))⟩ (fun b J=>.inl J)
     ·have:=Mj (i:=i) a0.out g1 (by omega) g3.out (rows.getD j []);rw[<- c8,I2] at this;exact this
    | true =>
     have HQ:Hid _:=hq;rw[hq] at O;clear hq c0 c1
     go_wp2_with fail
     refine (O.out _ (Below.refl _ _)).mono ?_;rintro e w2 ⟨rfl,V⟩;have c5:Hid _:=V;clear V b0
     go_wp2_with fail
     have hA:Below wr.heap.size wr w2:=c5.out;exact⟨⟨i,j+1,Y,rfl,by go_num,HC.out.trans (aI.of_below _ hA) (fun b J=>.inl J),eF a0.out hA,HK.out.skip e7 HQ.out⟩,by simp[intOf];omega⟩
   ·obtain rfl:j=rows.length:=by omega
    have U:∀k,k<rows.length*1->(wr.cell? ⟨b,k,none⟩).isSome=true/\wr.frozen? ⟨b,k,none⟩=false:=fun k hk=>by obtain⟨q1,q2⟩:=dl a0.out (i:=k / 1) (j:=k % 1) (by omega) (by omega);rw[show k / 1*1+k % 1=k from by omega] at q1 q2;exact⟨by rw[q1];rfl,q2⟩
    have c4:qL.cells.size=1:=rfl;have h5:∀ty,(Builtin.clear_ #[26] ty #[.slice (some ⟨b,i,none⟩) (rows.length - i) (cap - i)]).run f4 wr=.ok (.tuple #[]) (wr.setCells b i (Builtin.zeroCells qL.cells (rows.length - i)).toList):=fun ty =>
     Bs wr _ _ ty qL Tryz.underlying26 Xx (fun u hu=>by simp[Value.cells] at hu;subst hu;rfl) b i _ _ (by omega) (by decide)
      (fun k hk=>(U (i+k) (by rw[c4] at hk;omega)).1) (fun k hk=>(U (i+k) (by rw[c4] at hk;omega)).2)
    have k3:Hid _:=h5;have b1:i<=cap:=by omega
    have b2:i<=rows.length:=by omega
    have b3:¬(cap=i):=by omega
    clear U c4;go_wp2
    go_ret
    have f2:eC C rows=Y.take i:=by have:=HK.out.done;rw[z9 (g8 _)] at this;exact this.symm
    rw[f2];obtain⟨d1,d2,d3,d4,d5⟩:=bu b (Builtin.zeroCells qL.cells (rows.length - i)).toList i wr;refine⟨_,some b,rfl,HC.out.trans ⟨d1,d2,d3,C5 d4.symm,fun k hk c3=>d5 k (fun e=>c3 (by rw[e]))⟩ (fun b J=>.inl J),?_,fun b J=>.inl J⟩;rcases qG a0.out with⟨h0,_⟩ | ⟨b',cap',arr',J,hu,hle',h63',hh',hs',hc'⟩
    ·cases h0
    ·injection J with J
     subst J;injection hu with _ _ hu2
     subst hu2;obtain⟨h8,a1,a2,a3,a4⟩:=bA b 3 (0,0) (Builtin.zeroCells qL.cells (rows.length - i)).toList i wr arr' hh' (by
      have:(Builtin.zeroCells qL.cells (rows.length - i)).toList.length=(rows.length - i)*1:=by simp[size_zeroCells,show qL.cells.size=1 from rfl]
      rw[this,hs'];omega)
     have hl:(Y.take i).length=i:=by rw[s9];omega
     have:=JT (rows:=Y.take i) a1 (by rw[a2,hs']) (by omega) h63' (fun k m hk hm=>by rw[hl] at hk;rw[f9,s7,j8 hk,<- f9];rw[a3 _ (.inl (by omega))];exact hc' k m (by omega) hm)
     rwa [hl] at this
set_option maxRecDepth 4096
set_option maxHeartbeats 1000000
abbrev rO:=find []
theorem yA:av f4 rO:=ap (fN)
abbrev sE:=[0,1,3]
theorem zV(N:Nat)(p q:b8):aZ f4 rO N sE Tryz.f142 rb [⟨ri,p⟩,⟨.one (.c (.cptr [si] 0)),q⟩]=some (bo,
 ob ((p 0).int==(((q 0).rows.getD 0 []) 0).int)):=by kernel_rfl
def iA(p q:b8):Bool:=
 (p 0).int==(((q 0).rows.getD 0 []) 0).int
def rV:Ent:=(142,e2 ri (.one (.c (.cptr [si] 0))) fun p q=>(⟨rb,[.b (iA [p 0] [q 0])]⟩,true))
theorem pC:aw f4 rV:=bj fun p q h=>aq (N:=0) (ks:=sE) yA Tryz.func142 fun hw=>by
 rw[zV]
 try simp only[dd,de,db]
 rfl
abbrev Za:=find [rV]
abbrev ZW:=[0,1,4,5,7,8,9,16]
def DZ(N:Nat)(p q:b8):b8->Out:=bc f4 Za N ZW Tryz.f229 ri [⟨sd (.sl 3),p⟩,⟨.one (.c (.fn 142 [.cptr [si] 0])),q⟩] 0
theorem aaL(N:Nat)(p q:b8)(O U Y V J:D):(DZ N p q) [O,U,Y,V,J] =
 bif ltI J.int V.int then nd (al J.int O.rows.length) (bif iA [O.rows.getD J.int.toNat [] 0] [U.rows.getD 0 [] 0] then some (1,[J])
 else nx [O,U,Y,V,.i (w64 (J.int+1))])
 else ex 0 [O,U,Y,V,J]:=by kernel_rfl
theorem afx(N:Nat)(p q:b8):aZ f4 Za N ZW Tryz.f229 ri [⟨sd (.sl 3),p⟩,⟨.one (.c (.fn 142 [.cptr [si] 0])),q⟩]=some (bo,
 (let J:=ba (DZ N p q) N [p 0,q 0,.i 0,.i (p 0:Int),.i 0]
  nd J.isSome (bif J.code==1 then some (1,J.pay)
  else nd (J.code==2) (oi (-1))))):=by kernel_rfl
def xH(c:D)(r:b8):Bool:=iA r [c.rows.getD 0 [] 0]
def akT:Ent:=(229,e2 (sd (.sl 3)) (.one (.c (.fn 142 [.cptr [si] 0]))) fun p q=>(⟨ri,[.i (ixF (fun k=>xH (q 0) (sub ((p 0).rows.getD k []) 0 1)) 0 (p 0).rows.length)]⟩,true))
theorem aeT:aw f4 akT:=bj fun p q h=>aq (N:=(p 0).rows.length+1) (ks:=ZW) (ap (fC ⟨pC,fN⟩)) Tryz.func229 fun hw=>by
 rw[afx];have U:=dY (hw ⟨sd (.sl 3),p⟩ (by simp));have e:=fK (L:=DZ ((p 0).rows.length+1) p q) (fun k => [p 0,q 0,.i 0,.i (p 0:Int),.i (k:Int)]) (p 0).rows.length (fun k=>xH (q 0) (sub (p 0 k) 0 1)) [p 0,q 0,.i 0,.i (p 0:Int),.i (p 0:Int)] (fun k hk=>?_) ?_ (p 0).rows.length 0 ((p 0).rows.length+1) (by omega) (by omega)
 ·simp only[g9] at e;rw[e];have J:=fx (fun k=>xH (q 0) (sub (p 0 k) 0 1)) (p 0).rows.length 0;cases O:decide (ixF (fun k=>xH (q 0) (sub (p 0 k) 0 1)) 0 (p 0).rows.length>=0)
  ·rw[J O];rfl
  ·rfl
 ·show DZ _ p q [_,_,_,_,.i (k:Int)]=_;rw[aaL];simp only[aE,cy hk,bn hk,aF hk U,g4];rw[show iA [p 0 k 0] [q 0 0 0]=xH (q 0) (sub (p 0 k) 0 1) from rfl];cases xH (q 0) (sub (p 0 k) 0 1) <;> rfl
 ·show DZ _ p q [_,_,_,.i (p 0:Int),.i (p 0:Int)]=_;rw[aaL];simp only[aE,bF]
abbrev Ck:=find []
theorem Jm:av f4 Ck:=ap (fN)
abbrev Cl:=[0,1,2,3]
theorem KQ(N:Nat)(p q:b8):aZ f4 Ck N Cl Tryz.f166 rb [⟨ag cV,p⟩,⟨.one (.c (.cptr [si] 0)),q⟩]=some (bo,
 ob ((p 0).int != (((q 0).rows.getD 0 []) 0).int)):=by kernel_rfl
def ov(p q:b8):Bool:=
 (p 0).int != (((q 0).rows.getD 0 []) 0).int
def DN:Ent:=(166,e2 (ag cV) (.one (.c (.cptr [si] 0))) fun p q=>(⟨rb,[.b (ov p [q 0])]⟩,true))
theorem vU:aw f4 DN:=bj fun p q h=>aq (N:=0) (ks:=Cl) Jm Tryz.func166 fun hw=>by
 rw[KQ]
 try simp only[dd,de,db]
 rfl
abbrev ZT:=find [DN]
abbrev Zo:=[0,1,4,5,7,8,9,16]
def Eo(N:Nat)(p q:b8):b8->Out:=bc f4 ZT N Zo Tryz.f234 ri [⟨sd (.sl 93),p⟩,⟨.one (.c (.fn 166 [.cptr [si] 0])),q⟩] 0
theorem abV(N:Nat)(p q:b8)(O U Y V J:D):(Eo N p q) [O,U,Y,V,J] =
 bif ltI J.int V.int then nd (al J.int O.rows.length) (bif ov (sub (O.rows.getD J.int.toNat []) 0 4) [U.rows.getD 0 [] 0] then some (1,[J])
 else nx [O,U,Y,V,.i (w64 (J.int+1))])
 else ex 0 [O,U,Y,V,J]:=by kernel_rfl
theorem ahq(N:Nat)(p q:b8):aZ f4 ZT N Zo Tryz.f234 ri [⟨sd (.sl 93),p⟩,⟨.one (.c (.fn 166 [.cptr [si] 0])),q⟩]=some (bo,
 (let J:=ba (Eo N p q) N [p 0,q 0,.i 0,.i (p 0:Int),.i 0]
  nd J.isSome (bif J.code==1 then some (1,J.pay)
  else nd (J.code==2) (oi (-1))))):=by kernel_rfl
def zU(c:D)(r:b8):Bool:=ov r [c.rows.getD 0 [] 0]
def alO:Ent:=(234,e2 (sd (.sl 93)) (.one (.c (.fn 166 [.cptr [si] 0]))) fun p q=>(⟨ri,[.i (ixF (fun k=>zU (q 0) (sub ((p 0).rows.getD k []) 0 4)) 0 (p 0).rows.length)]⟩,true))
theorem ahN:aw f4 alO:=bj fun p q h=>aq (N:=(p 0).rows.length+1) (ks:=Zo) (ap (fC ⟨vU,fN⟩)) Tryz.func234 fun hw=>by
 rw[ahq];have U:=dY (hw ⟨sd (.sl 93),p⟩ (by simp));have e:=fK (L:=Eo ((p 0).rows.length+1) p q) (fun k => [p 0,q 0,.i 0,.i (p 0:Int),.i (k:Int)]) (p 0).rows.length (fun k=>zU (q 0) (sub (p 0 k) 0 4)) [p 0,q 0,.i 0,.i (p 0:Int),.i (p 0:Int)] (fun k hk=>?_) ?_ (p 0).rows.length 0 ((p 0).rows.length+1) (by omega) (by omega)
 ·simp only[g9] at e;rw[e];have J:=fx (fun k=>zU (q 0) (sub (p 0 k) 0 4)) (p 0).rows.length 0;cases O:decide (ixF (fun k=>zU (q 0) (sub (p 0 k) 0 4)) 0 (p 0).rows.length>=0)
  ·rw[J O];rfl
  ·rfl
 ·show Eo _ p q [_,_,_,_,.i (k:Int)]=_;rw[abV];simp only[aE,cy hk,bn hk,aF hk U,g4];unfold zU;cases ov (sub (p 0 k) 0 4) [q 0 0 0] <;> rfl
 ·show Eo _ p q [_,_,_,.i (p 0:Int),.i (p 0:Int)]=_;rw[abV];simp only[aE,bF]
set_option maxRecDepth 100000
set_option maxHeartbeats 4000000
def lH(x c:D):D:=.l (eC (fun r=>xH c (sub r 0 1)) x.rows)
def PR:Ent:=(141,e2 (sd (.sl 3)) (.one (.c (.fn 142 [.cptr [si] 0]))) fun p q=>(⟨.tup [.agg [.any]],[lH (p 0) (q 0)]⟩,true))
theorem Xa:aw f4 PR:=bj fun p q h=>by
 refine aQ.ofK rfl ⟨cN Tryz.func141 (by kernel_rfl) (by kernel_rfl),fun e x rest row U Y b1 w prot u B vs hO hB a7 a2 b3=>?_⟩;injection U with U hre
 injection U with U hp
 injection U with U
 injection U with U
 injection U with U
 injection U with U
 subst U hre;have hx:p 0=x:=by rw[hp];rfl
 rw[show bk f4 3=some (jF 1) from by kernel_rfl] at Y;injection Y with Y
 subst Y;obtain⟨f0,a8,V,b0,a3,a6⟩:∃f0,vs = #[f0]/\∃V:Array Value,f0=.func (.func 142) #[] V/\V.size=1/\∀J,aI w J B->(∃z,V[0]?=some z/\fU f4 J (g0 J.heap.size prot) J.heap.size [si] 0 (q 0 0 0) z):=by
  have hg:=fun J (hC:aI w J B)=>(a2 J hC).2 0 _ rfl
  obtain⟨f0,h1,V,Z,h3,h4⟩:=hg w (aI.refl w B);refine⟨f0,ml (a2 w (aI.refl w B)) [f0] rfl fun j t u' O hu=>?_,V,Z,h3,fun J hC=>?_⟩
  ·match j,O with
   | 0,_=>rw[h1] at hu;injection hu with hu;rw[<- hu];rfl
  ·obtain⟨f1,k1,fb,k2,k3,k4⟩:=hg J hC;rw[h1] at k1;injection k1 with k1;subst k1;rw[Z] at k2;injection k2 with _ _ k2;subst k2;exact k4 0 _ rfl
 subst a8 b0
 let C:b8->Bool:=fun r=>xH (q 0) (sub r 0 1)
 have a1:∀J a0,aI w J B->∃z,V[0]?=some z/\fU f4 J (g0 J.heap.size a0) J.heap.size [si] 0 (q 0 0 0) z:=by
  intro J a0 hC;obtain⟨z,h1,b,o,Z,h3,h4⟩:=a6 J hC;refine⟨z,h1,b,o,Z,h3,fun j s hs=>?_⟩;obtain⟨u',k1,k2⟩:=h4 j s hs;have a5:s=si:=by
   match j,hs with
   | 0,hs=>injection hs with hs;exact hs.symm
  subst a5;exact⟨u',k1,by cases k2;exact .int _ _⟩
 have b2:V.toList.length=1:=by simpa using a3
 have a4:=PL hO 142 V C (fun r=>rfl) (cN Tryz.func142) ?_ ?_
 ·show Calls _ _ #[u,.func (.func 142) #[] V] w fun ex w'=>∃v' B',ex=.returned v'/\aI w w' B/\dg w' _ _ (eC C (p 0).rows) v' B'/\_
  rw[hx];exact a4
 ·-- the search
  have hs:=aeT [⟨sd (.sl 3),[x]⟩,⟨.one (.c (.fn 142 [.cptr [si] 0])),q⟩] ⟨ri,[.i (ixF (fun k=>C (x k)) 0 x.rows.length)]⟩ rfl;have hs:=(hs.n rfl).2 w (fun b=>if B=some b then x.rows.length*1 else prot b) #[u,.func (.func 142) #[] V] ⟨rfl,fun j t O=>?_⟩ (fun b hb=>?_)
  ·refine hs.mono ?_;rintro ex w' ⟨v',g',rfl,hR⟩;have hv:VD f4 w' g'.prot (.int .i64) (.i (ixF (fun k=>C (x k)) 0 x.rows.length)) v':=hR.val;cases hv;exact⟨rfl,hR.below⟩
  ·match j,O with
   | 0,O =>
    injection O with O;subst O
    refine⟨u,rfl,?_⟩;have:=yv (P:=f4) (z:=x) (show bk f4 3=some (jF 1) from by kernel_rfl) hO;exact this.mono fun b o z h1 Z=>⟨Z,by
     change o<(if B=some b then x.rows.length*1 else 0) at h1;show o<(if B=some b then x.rows.length*1 else prot b)
     split at h1
     ·rw[j8 ‹_›];exact h1
     ·omega⟩
   | 1,O =>
    injection O with O;subst O
    refine⟨_,rfl,V,rfl,a3,fun j c hc=>?_⟩
    match j,hc with
    | 0,hc =>
     injection hc with hc;subst hc
     exact a1 w _ (aI.refl w B)
  ·show (if B=some b then _ else prot b)=0;rw[i7 (fun e=>by have:=oI hO b e;omega)];exact a7 b hb
 ·intro J x0 hC;have hs:=pC [⟨ri,[.i x0]⟩,⟨.one (.c (.cptr [si] 0)),[q 0 0 0]⟩] ⟨rb,[.b (C [.i x0])]⟩ rfl;have hs:=(hs.n rfl).2 J (fun _=>0) (#[.int .i64 x0]++V) ⟨by rw[A9,a3];rfl,fun j t O=>?_⟩ (fun b hb=>rfl)
  ·refine hs.mono ?_;rintro ex w' ⟨v',g',rfl,hR⟩;have hv:VD f4 w' g'.prot .bool (.b (C [.i x0])) v':=hR.val;cases hv;exact⟨rfl,hR.below⟩
  ·match j,O with
   | 0,O =>
    injection O with O;subst O
    exact⟨.int .i64 x0,r9 (xs:= #[Value.int .i64 x0]) (i:=0) (by show 0<1;omega),.int .i64 (.i x0)⟩
   | 1,O =>
    injection O with O;subst O
    obtain⟨z,h1,Z⟩:=a1 J (fun _=>0) hC;refine⟨z,?_,Z⟩;exact (A4 (xs:= #[Value.int .i64 x0]) (i:=1) (by show 1<=1;omega)).trans h1
def ML(x c:D):D:=.l (eC (fun r=>zU c (sub r 0 4)) x.rows)
def Qs:Ent:=(164,e2 (sd (.sl 93)) (.one (.c (.fn 166 [.cptr [si] 0]))) fun p q=>(⟨.tup [.agg [.any]],[ML (p 0) (q 0)]⟩,true))
theorem UX:aw f4 Qs:=bj fun p q h=>by
 refine aQ.ofK rfl ⟨cN Tryz.func164 (by kernel_rfl) (by kernel_rfl),fun e x rest row V a0 b2 w prot u B vs hO hB a8 a3 b4=>?_⟩;injection V with V hre
 injection V with V hp
 injection V with V
 injection V with V
 injection V with V
 injection V with V
 subst V hre;have hx:p 0=x:=by rw[hp];rfl
 rw[show bk f4 93=some (jF 4) from by kernel_rfl] at a0;injection a0 with a0
 subst a0;obtain⟨f0,b0,Y,b1,a4,a7⟩:∃f0,vs = #[f0]/\∃Y:Array Value,f0=.func (.func 166) #[] Y/\Y.size=1/\∀J,aI w J B->(∃z,Y[0]?=some z/\fU f4 J (g0 J.heap.size prot) J.heap.size [si] 0 (q 0 0 0) z):=by
  have hg:=fun J (hC:aI w J B)=>(a3 J hC).2 0 _ rfl
  obtain⟨f0,h1,Y,h2,h3,h4⟩:=hg w (aI.refl w B);refine⟨f0,ml (a3 w (aI.refl w B)) [f0] rfl fun j t u' U hu=>?_,Y,h2,h3,fun J hC=>?_⟩
  ·match j,U with
   | 0,_=>rw[h1] at hu;injection hu with hu;rw[<- hu];rfl
  ·obtain⟨f1,k1,fb,k2,k3,k4⟩:=hg J hC;rw[h1] at k1;injection k1 with k1;subst k1;rw[h2] at k2;injection k2 with _ _ k2;subst k2;exact k4 0 _ rfl
 subst b0 b1
 let C:b8->Bool:=fun r=>zU (q 0) (sub r 0 4)
 have a2:∀J a1,aI w J B->∃z,Y[0]?=some z/\fU f4 J (g0 J.heap.size a1) J.heap.size [si] 0 (q 0 0 0) z:=by
  intro J a1 hC;obtain⟨z,h1,b,o,h2,h3,h4⟩:=a7 J hC;refine⟨z,h1,b,o,h2,h3,fun j s hs=>?_⟩;obtain⟨u',k1,k2⟩:=h4 j s hs;have a6:s=si:=by
   match j,hs with
   | 0,hs=>injection hs with hs;exact hs.symm
  subst a6;exact⟨u',k1,by cases k2;exact .int _ _⟩
 have b3:Y.toList.length=1:=by simpa using a4
 have a5:=oQ hO 166 Y C (fun r=>rfl) (cN Tryz.func166) ?_ ?_
 ·show Calls _ _ #[u,.func (.func 166) #[] Y] w fun ex w'=>∃v' B',ex=.returned v'/\aI w w' B/\dg w' _ _ (eC C (p 0).rows) v' B'/\_
  rw[hx];exact a5
 ·-- the search
  have hs:=ahN [⟨sd (.sl 93),[x]⟩,⟨.one (.c (.fn 166 [.cptr [si] 0])),q⟩] ⟨ri,[.i (ixF (fun k=>C (x k)) 0 x.rows.length)]⟩ rfl;have hs:=(hs.n rfl).2 w (fun b=>if B=some b then x.rows.length*4 else prot b) #[u,.func (.func 166) #[] Y] ⟨rfl,fun j t U=>?_⟩ (fun b hb=>?_)
  ·refine hs.mono ?_;rintro ex w' ⟨v',g',rfl,hR⟩;have hv:VD f4 w' g'.prot (.int .i64) (.i (ixF (fun k=>C (x k)) 0 x.rows.length)) v':=hR.val;cases hv;exact⟨rfl,hR.below⟩
  ·match j,U with
   | 0,U =>
    injection U with U;subst U
    refine⟨u,rfl,?_⟩;have:=yv (P:=f4) (z:=x) (show bk f4 93=some (jF 4) from by kernel_rfl) hO;exact this.mono fun b o z h1 h2=>⟨h2,by
     change o<(if B=some b then x.rows.length*4 else 0) at h1;show o<(if B=some b then x.rows.length*4 else prot b)
     split at h1
     ·rw[j8 ‹_›];exact h1
     ·omega⟩
   | 1,U =>
    injection U with U;subst U
    refine⟨_,rfl,Y,rfl,a4,fun j c hc=>?_⟩
    match j,hc with
    | 0,hc =>
     injection hc with hc;subst hc
     exact a2 w _ (aI.refl w B)
  ·show (if B=some b then _ else prot b)=0;rw[i7 (fun e=>by have:=oI hO b e;omega)];exact a8 b hb
 ·intro J x0 x1 x2 Z hC;have hs:=vU [⟨ag cV,[.i x0,.i x1,.i x2,.i Z]⟩,⟨.one (.c (.cptr [si] 0)),[q 0 0 0]⟩] ⟨rb,[.b (C [.i x0,.i x1,.i x2,.i Z])]⟩ rfl;have hs:=(hs.n rfl).2 J (fun _=>0) (#[.agg #[.int .i64 x0,.int .i64 x1,.int .i64 x2,.int .i64 Z]]++Y) ⟨by rw[A9,a4];rfl,fun j t U=>?_⟩ (fun b hb=>rfl)
  ·refine hs.mono ?_;rintro ex w' ⟨v',g',rfl,hR⟩;have hv:VD f4 w' g'.prot .bool (.b (C [.i x0,.i x1,.i x2,.i Z])) v':=hR.val;cases hv;exact⟨rfl,hR.below⟩
  ·match j,U with
   | 0,U =>
    injection U with U;subst U
    refine⟨.agg #[.int .i64 x0,.int .i64 x1,.int .i64 x2,.int .i64 Z],r9 (xs:= #[Value.agg #[.int .i64 x0,.int .i64 x1,.int .i64 x2,.int .i64 Z]]) (i:=0) (by show 0<1;omega),#[.int .i64 x0,.int .i64 x1,.int .i64 x2,.int .i64 Z],rfl,rfl,fun j cc O=>?_⟩
    match j,O with
    | 0,O=>injection O with O;subst O;exact⟨_,rfl,.int .i64 (.i x0)⟩
    | 1,O=>injection O with O;subst O;exact⟨_,rfl,.int .i64 (.i x1)⟩
    | 2,O=>injection O with O;subst O;exact⟨_,rfl,.int .i64 (.i x2)⟩
    | 3,O=>injection O with O;subst O;exact⟨_,rfl,.int .i64 (.i Z)⟩
   | 1,U =>
    injection U with U;subst U
    obtain⟨z,h1,h2⟩:=a2 J (fun _=>0) hC;refine⟨z,?_,h2⟩;exact (A4 (xs:= #[Value.agg #[.int .i64 x0,.int .i64 x1,.int .i64 x2,.int .i64 Z]]) (i:=1) (by show 1<=1;omega)).trans h1
set_option maxRecDepth 4096
set_option maxHeartbeats 1000000
abbrev MR:=find [lM,mt,Qs]
abbrev Ng:=[0,1,3,4,7]
theorem Up(N:Nat)(p q:b8):aZ f4 MR N Ng Tryz.f45 (.one (.c (.own (0,0) true 93))) [⟨sd (.sl 93),p⟩,⟨ri,q⟩]=some (bo,
 bif !(aR (p 0)) then some (1,[.l []])
 else nd (leI (p 0) 2000000) (some (1,[ML (.l (p 0).rows) (.l [[.l [[q 0]]]])]))):=by kernel_rfl
def iW(z n:D):D:=bif aR z then ML (.l z.rows) (.l [[.l [[n]]]]) else .l []
def Lz:Ent:=(45,e2 (sd (.sl 93)) ri fun p q=>(⟨.one (.c (.own (0,0) true 93)),[iW (p 0) (q 0)]⟩,true))
theorem TL:aw f4 Lz:=bj fun p q h=>aq (N:=0) (ks:=Ng) (ap (fC ⟨kG,fC ⟨mr,fC ⟨UX,fN⟩⟩⟩)) Tryz.func45 fun hw=>by
 rw[Up];refine congrArg (fun x=>some (bo,x)) ?_;show _=some (1,[iW (p 0) (q 0)]);unfold iW;cases h1:aR (p 0) with
 | false=>rfl
 | true =>rw[show leI (p 0) 2000000=true from bb (by have J:(p 0:Int)<=40:=j9 ((a9 _ _).mp h1).2;omega)];rfl
abbrev yM:=find [pA,mX,vR,GI]
abbrev yG:=[0,1,4,5,6,14,21]
theorem Jc(N:Nat)(p q:b8):aZ f4 yM N yG Tryz.f139 (.tup [.c (.own (0,0) true 108),.c (.d .bool)]) [⟨sd (.sl 108),p⟩,⟨sd (.sl 70),q⟩]=some (bo,
 bif !(aN (p 0)) then some (1,[.l [],.b false])
 else bif !(aO (q 0)) then some (1,[.l [],.b false])
 else nd (leI (p 0) 1000000) (nd (cl (.l (p 0).rows)&&aO (q 0)) (bif ltI 60 (wrD (.l (p 0).rows) (q 0) (q 0).rows.length) then some (1,[.l [],.b false])
 else some (1,[wrD (.l (p 0).rows) (q 0) (q 0).rows.length,.b true])))):=by kernel_rfl
def nE(z w:D):Bool:=aN z&&(aO w && !(ltI 60 (wrD (.l z.rows) w w.rows.length)))
def fh(z w:D):D:=bif nE z w then wrD (.l z.rows) w w.rows.length else .l []
def zl:Ent:=(139,e2 (sd (.sl 108)) (sd (.sl 70)) fun p q=>(⟨.tup [.c (.own (0,0) true 108),.c (.d .bool)],[fh (p 0) (q 0),.b (nE (p 0) (q 0))]⟩,true))
theorem IX:aw f4 zl:=bj fun p q h=>aq (N:=0) (ks:=yG) (ap (fC ⟨oc,fC ⟨lU,fC ⟨tU,fC ⟨PH,fN⟩⟩⟩⟩)) Tryz.func139 fun hw=>by
 rw[Jc];refine congrArg (fun x=>some (bo,x)) ?_;show _=some (1,[fh (p 0) (q 0),.b (nE (p 0) (q 0))]);unfold fh nE;cases h1:aN (p 0) with
 | false=>rfl
 | true =>
  cases U:aO (q 0) with
  | false=>rfl
  | true =>have hs:=dw h1;have J:cl (.l (p 0).rows)=true:=EX.2 (by have:=(dq (p 0)).1 h1;exact⟨this.2.1,fun a O=>(this.1 a O).1⟩);rw[J,show leI (p 0) 1000000=true from bb (by have:=hs.len;omega)];cases ltI 60 (wrD (.l (p 0).rows) (q 0) (q 0).rows.length) <;> rfl
def uL:Ent:=HT [18]
theorem BY:aw f4 uL:=rF _
abbrev xl:=find [lS,uH,gC,Xs,oL,alx,zl,aaS,rd,PR,jQ,pu,uL]
abbrev vy:=[0,1,2,3,4,6,7,8,9,17,24,32,33]
def pK(N:Nat)(p q r:b8):List b8:= [[.b (nE (dpS p 3) (((dpS p 5).rows.getD (ixF (fun k=>(q 0).int==(((aB (dpS p 5)).rows.getD k []) 0).int) 0 (aB (dpS p 5)).rows.length).toNat []) 1))],[.i 0],[fh (dpS p 3) (((dpS p 5).rows.getD (ixF (fun k=>(q 0).int==(((aB (dpS p 5)).rows.getD k []) 0).int) 0 (aB (dpS p 5)).rows.length).toNat []) 1)],[fh (dpS p 3) (((dpS p 5).rows.getD (ixF (fun k=>(q 0).int==(((aB (dpS p 5)).rows.getD k []) 0).int) 0 (aB (dpS p 5)).rows.length).toNat []) 1),.b (nE (dpS p 3) (((dpS p 5).rows.getD (ixF (fun k=>(q 0).int==(((aB (dpS p 5)).rows.getD k []) 0).int) 0 (aB (dpS p 5)).rows.length).toNat []) 1))],[fh (dpS p 3) (((dpS p 5).rows.getD (ixF (fun k=>(q 0).int==(((aB (dpS p 5)).rows.getD k []) 0).int) 0 (aB (dpS p 5)).rows.length).toNat []) 1),.b (nE (dpS p 3) (((dpS p 5).rows.getD (ixF (fun k=>(q 0).int==(((aB (dpS p 5)).rows.getD k []) 0).int) 0 (aB (dpS p 5)).rows.length).toNat []) 1))],[.l [[.l (dpS p 5).rows,.i (ixF (fun k=>(q 0).int==(((aB (dpS p 5)).rows.getD k []) 0).int) 0 (aB (dpS p 5)).rows.length)]]],[.l [[.l (dpS p 5).rows,.i (ixF (fun k=>(q 0).int==(((aB (dpS p 5)).rows.getD k []) 0).int) 0 (aB (dpS p 5)).rows.length)]]],[.l [[.l (dpS p 5).rows,.i (ixF (fun k=>(q 0).int==(((aB (dpS p 5)).rows.getD k []) 0).int) 0 (aB (dpS p 5)).rows.length)]]],[.i (ixF (fun k=>(q 0).int==(((aB (dpS p 5)).rows.getD k []) 0).int) 0 (aB (dpS p 5)).rows.length)],[dpS p 5],[.i 0],[dpS p 3],[.i 0],p,q,r,[.i 0],[.i 0],[.i 0],[.i 0],[.b (!(inB (q 0).int 1 60))],[.i 0],[.b (aA (p 7) (q 0).int)],[.i (ixF (fun k=>(q 0).int==(((aB (dpS p 5)).rows.getD k []) 0).int) 0 (aB (dpS p 5)).rows.length)],[.b (leI 0 (ixF (fun k=>(q 0).int==(((aB (dpS p 5)).rows.getD k []) 0).int) 0 (aB (dpS p 5)).rows.length))],r,[p 0,p 1,p 2,p 3,p 4,p 5,p 6,p 7,p 8],[q 0],[.i 0,.l [],.l [],.l [],.l [],.l [],.l [],.l [],.i 0],[dpS p 0,dpS p 1,dpS p 2,fh (dpS p 3) (((dpS p 5).rows.getD (ixF (fun k=>(q 0).int==(((aB (dpS p 5)).rows.getD k []) 0).int) 0 (aB (dpS p 5)).rows.length).toNat []) 1),dpS p 4,dpS p 5,dpS p 6,dpS p 7,dpS p 8]]
theorem Fb(N:Nat)(p q r:b8):aZ f4 xl N vy Tryz.f39 (.tup [.agg zE,.c (.d si)]) [⟨ag aK,p⟩,⟨ri,q⟩,⟨rb,r⟩]=some (bo,
 nd (bE (sub p 0 9)) (bif !(aY (sub p 0 9)) then some (1,[.i 0,.l [],.l [],.l [],.l [],.l [],.l [],.l [],.i 0,.i 1])
 else bif !(inB (q 0).int 1 60) then some (1,[.i 0,.l [],.l [],.l [],.l [],.l [],.l [],.l [],.i 0,.i 1])
 else nd (cv (sub p 0 9)) (bif aA (p 7) (q 0).int then some (1,sub (dpS p) 0 9 ++ [.i 2])
 else nd (leI (dpS p 5) 1000000000) (bif leI 0 (ixF (fun k=>(q 0).int==(((aB (dpS p 5)).rows.getD k []) 0).int) 0 (aB (dpS p 5)).rows.length) then bif (r 0).bool then nd ((al (ixF (fun k=>(q 0).int==(((aB (dpS p 5)).rows.getD k []) 0).int) 0 (aB (dpS p 5)).rows.length) (dpS p 5).rows.length)&&true) (nd (((al (ixF (fun k=>(q 0).int==(((aB (dpS p 5)).rows.getD k []) 0).int) 0 (aB (dpS p 5)).rows.length) (dpS p 5).rows.length)&&true)&&(ec (pK N p q r) (pK N p q r))) (nd (leI 0 (ixF (fun k=>(q 0).int==(((aB (dpS p 5)).rows.getD k []) 0).int) 0 (aB (dpS p 5)).rows.length)&&ltI (ixF (fun k=>(q 0).int==(((aB (dpS p 5)).rows.getD k []) 0).int) 0 (aB (dpS p 5)).rows.length) (dpS p 5:Int)&&((w64 ((ixF (fun k=>(q 0).int==(((aB (dpS p 5)).rows.getD k []) 0).int) 0 (aB (dpS p 5)).rows.length)+1))==(ixF (fun k=>(q 0).int==(((aB (dpS p 5)).rows.getD k []) 0).int) 0 (aB (dpS p 5)).rows.length)+1)) (nd (iR (dpS p 7)&&leI (dpS p 7) 40000) (some (1,[dpS p 0,dpS p 1,dpS p 2,fh (dpS p 3) (((dpS p 5).rows.getD (ixF (fun k=>(q 0).int==(((aB (dpS p 5)).rows.getD k []) 0).int) 0 (aB (dpS p 5)).rows.length).toNat []) 1),jg (dpS p 4) (q 0),mH (dpS p 5) (ixF (fun k=>(q 0).int==(((aB (dpS p 5)).rows.getD k []) 0).int) 0 (aB (dpS p 5)).rows.length),lH (dpS p 6) (.l [[.l [[q 0]]]]),bC (dpS p 7) (q 0),dpS p 8,.i 0])))))
 else nd (leI 0 (ixF (fun k=>(q 0).int==(((aB (dpS p 5)).rows.getD k []) 0).int) 0 (aB (dpS p 5)).rows.length)&&ltI (ixF (fun k=>(q 0).int==(((aB (dpS p 5)).rows.getD k []) 0).int) 0 (aB (dpS p 5)).rows.length) (dpS p 5:Int)&&((w64 ((ixF (fun k=>(q 0).int==(((aB (dpS p 5)).rows.getD k []) 0).int) 0 (aB (dpS p 5)).rows.length)+1))==(ixF (fun k=>(q 0).int==(((aB (dpS p 5)).rows.getD k []) 0).int) 0 (aB (dpS p 5)).rows.length)+1)) (nd (iR (dpS p 7)&&leI (dpS p 7) 40000) (some (1,sub (dpS p) 0 4 ++ [jg (dpS p 4) (q 0),mH (dpS p 5) (ixF (fun k=>(q 0).int==(((aB (dpS p 5)).rows.getD k []) 0).int) 0 (aB (dpS p 5)).rows.length),lH (dpS p 6) (.l [[.l [[q 0]]]]),bC (dpS p 7) (q 0),dpS p 8,.i 0])))
 else nd (iR (dpS p 7)&&leI (dpS p 7) 40000) (some (1,sub (dpS p) 0 4 ++ [jg (dpS p 4) (q 0),dpS p 5,lH (dpS p 6) (.l [[.l [[q 0]]]]),bC (dpS p 7) (q 0),dpS p 8,.i 0])))))):=by kernel_rfl
abbrev dH(p:b8):D:=dpS p 5
def GD(p:b8)(n:D):Int:=ixF (fun k=>n.int==(((aB (dH p)).rows.getD k []) 0).int) 0 (aB (dH p)).rows.length
def Vc(p:b8)(n C H:D):b8:= [dpS p 0,dpS p 1,dpS p 2,C,jg (dpS p 4) n,H,lH (dpS p 6) (.l [[.l [[n]]]]),bC (dpS p 7) n,dpS p 8,.i 0]
def IF(p:b8)(n y:D):b8:=
 bif !(aY (sub p 0 9)) then dE ++ [.i 1] else bif !(inB n.int 1 60) then dE ++ [.i 1]
 else bif aA (p 7) n.int then dpS p ++ [.i 2]
 else bif leI 0 (GD p n) then Vc p n (bif y.bool then fh (dpS p 3) (((dH p).rows.getD (GD p n).toNat []) 1) else dpS p 3) (mH (dH p) (GD p n))
 else Vc p n (dpS p 3) (dH p)
def wg:Ent:=(39,e3 (ag aK) ri rb fun p q r=>(⟨.tup [.agg zE,.c (.d si)],sub (IF p (q 0) (r 0)) 0 10⟩,bE p))
theorem GB:aw f4 wg:=em fun p q r h=>aq (N:=0) (ks:=vy) (ap (fC ⟨lc,fC ⟨oE,fC ⟨gi,fC ⟨Ap,fC ⟨lP,fC ⟨ahI,fC ⟨IX,fC ⟨ach,fC ⟨uX,fC ⟨Xa,fC ⟨jd,fC ⟨mC,fC ⟨BY,fN⟩⟩⟩⟩⟩⟩⟩⟩⟩⟩⟩⟩⟩)) Tryz.func39 fun hw=>by
 rw[Fb];have h:bE (sub p 0 9)=true:=h;refine congrArg (fun x=>some (bo,x)) ?_;show _=some (1,sub (IF p (q 0) (r 0)) 0 10);unfold IF;rw[h,aP];cases hsh:aY (sub p 0 9) with
 | false=>rfl
 | true =>
 rw[l8,f5,f5];cases hin:inB (q 0).int 1 60 with
 | false=>rfl
 | true =>
 rw[l8,f5,f5,dB hsh,aP];cases h7:aA (p 7) (q 0).int with
 | true=>rfl
 | false =>
 rw[f5,f5];obtain⟨_,a1,O,a2,a0,_⟩:=cD hsh;have O:(p 5).rows.length<=60:=O;have a3:(dpS p 5).rows.length<=60:=o8 (fX _ _ _) O;have V:leI (dpS p 5) 1000000000=true:=bb (by omega);have s:=(cQ _).1 hsh;have Z:iR (dpS p 7)=true:=ro s.e;have Y:leI (dpS p 7) 40000=true:=bb (by have:(p 7).rows.length<=60:=pf (z:=sub p 0 9 7) s.e s.e1;show (p 7:Int)<=40000;omega);rw[V,Z,Y,aP];have U:(aB (dpS p 5)).rows.length=(dpS p 5).rows.length:=m9 ..;have J:=je (fun k=>(q 0).int==(aB (dpS p 5) k 0).int) (aB (dpS p 5)).rows.length 0;have he:ixF (fun k=>(q 0).int==(aB (dpS p 5) k 0).int) 0 (aB (dpS p 5)).rows.length=GD p (q 0):=rfl;rw[he] at J ⊢;rcases J with⟨J,_⟩ | ⟨k,hk,J,_⟩
 ·rw[J];rfl
 ·rw[i9] at J;rw[U] at hk;have c1:leI 0 (GD p (q 0))=true:=by rw[J];exact bb (by omega)
  have c2:al (GD p (q 0)) (dpS p 5).rows.length=true:=by rw[J];exact bP hk
  have c3:ltI (GD p (q 0)) (dpS p 5:Int)=true:=by rw[J];exact fI hk
  have c4:(w64 (GD p (q 0)+1)==GD p (q 0)+1)=true:=by rw[J,br (by omega) (by omega),n8]
  rw[c1,c2,c3,c4];cases (r 0).bool with
  | false=>rfl
  | true =>simp only[di,v6,aP];rfl
theorem NF(z:D){a b:D}(h:a.int<=b.int):∀k,(cH z a k).int<=(cH z b k).int
 | 0=>h
 | k+1=>by have V:=NF z h k;rw[cH,cH];generalize cH z a k=x at *;generalize cH z b k=y at *;generalize z k 0=lo;generalize z k 1=hi;by_cases h1:lo.int<=x.int <;> by_cases J:x.int<hi.int <;> by_cases O:lo.int<=y.int <;> by_cases U:y.int<hi.int <;> simp only[leI,ltI,h1,J,O,U,decide_true,decide_false,D2,C9,s8,y7,f8,f5] <;> omega
theorem aaG{z:D}{lo hi a b:D}(h:ax z [lo,hi]=true)(h1:lo.int<=a.int)(U:b.int<=hi.int)(O:ar [a,b]=true):ax z [a,b]=true:=by unfold ax at h ⊢;rw[a9,a9] at h ⊢;refine⟨h.1,O,?_⟩;have J:=h.2.2;unfold ca at J ⊢;have V:=NF z h1 z.rows.length;have J:leI hi.int (cH z lo z.rows.length).int=true:=J;show leI b.int (cH z a z.rows.length).int=true;simp only[leI,f7] at J ⊢;omega
theorem wC{r:b8}(h:inB (r 0).int 0 999=true):(dX r 1).int=(r 0).int+1:=by simp only[inB,a9,f7] at h;exact br (by omega) (by omega)
theorem aer{r:b8}(h:inB (r 0).int 0 999=true):ar (dX r)=true:=by have h1:=wC h;simp only[inB,a9,f7] at h;unfold ar;rw[h1];show (decide ((r 0).int>=0)&&(decide ((r 0).int<(r 0).int+1)&&decide ((r 0).int+1<=1000)))=true;simp only[a9,f7];omega
theorem LZ{z:D}{r x:b8}(h:ax z (dX r)=true)(e:(r 0).int=(x 0).int):ax z (dX x)=true:=by refine aaG (lo:=r 0) (hi:=.i (w64 ((r 0).int+1))) h (Int.le_of_eq e) (Int.le_of_eq (by show w64 ((x 0).int+1)=w64 ((r 0).int+1);rw[e])) ?_;unfold ax at h;rw[a9,a9] at h;have h:=h.2.1;unfold ar at h ⊢;have J:(dX r 0).int=(r 0).int:=rfl;have e1:(dX r 1).int=w64 ((r 0).int+1):=rfl;show (decide ((x 0).int>=0)&&(decide ((x 0).int<w64 ((x 0).int+1))&&decide (w64 ((x 0).int+1)<=1000)))=true;rw[J,e1,e] at h;exact h
theorem JD{r:b8}{n:D}{a:b8}(h:ld r n a (.i 2)=true):(r 0).int=n.int/\(r 1).int<=(a 0).int/\(a 1).int<=(r 2).int/\2<=(r 3).int:=by
 unfold ld ff at h;rw[a9,a9,p6] at h;obtain⟨h1,J,U⟩:=h;revert J;cases ar (sub a 0 2) <;> cases ar (sub [r 1,r 2] 0 2) <;> simp only[f8,f5] <;> intro J
 ·cases J
 ·cases J
 ·cases J
 ·have U:(2:Int)<=(r 3).int:=j9 U;cases O:leI (gd [r 1,r 2] 0).int (a 0).int with
  | false=>rw[O] at J;cases J
  | true =>rw[O,f8] at J;have O:(r 1).int<=(a 0).int:=j9 O;have J:(a 1).int<=(r 2).int:=j9 J;exact⟨h1,O,J,U⟩
theorem air{l:D}(h:aR l=true){a b:b8}(V:a∈l.rows)(Y:b∈l.rows)(J:(a 0).int≠(b 0).int):cA a b=false:=by
 obtain⟨_,O,_⟩:=(bU l).1 h;obtain⟨i,hi,rfl⟩:=n9 V;obtain⟨j,U,rfl⟩:=n9 Y;rcases Nat.lt_trichotomy i j with hij | hij | hij
 ·rw[MC];exact t9.1 O i j hi U hij
 ·subst hij;exact absurd rfl J
 ·exact t9.1 O j i U hi hij
theorem YK{l:D}(h:aR l=true){n m:D}{v w:b8}(hv:holds l n (dX v) (.i 2)=true)(hw:holds l m (dX w) (.i 2)=true)(U:n.int≠m.int)(kv:inB (v 0).int 0 999=true)(kw:inB (w 0).int 0 999=true):(v 0).int≠(w 0).int:=by
 intro e;obtain⟨a,ha,h1⟩:=dS.1 hv;obtain⟨b,hb,h2⟩:=dS.1 hw;obtain⟨a0,a1,a2,a3⟩:=JD h1;obtain⟨V,b1,b2,b3⟩:=JD h2;have e1:=wC kv;have e2:=wC kw;have e3:(dX v 0).int=(v 0).int:=rfl;have e4:(dX w 0).int=(w 0).int:=rfl;have J:=air h ha hb (by rw[a0,V];exact U);have O:=((bU l).1 h).1 a ha;simp only[jX,a9] at O;have O:=O.2.2;unfold cO at O;have Y:((a 3).int==2)=true:=by
  cases Z:(gd [a 3] 0).int==1 with
  | true =>have:(a 3).int=1:=p6.1 Z;omega
  | false=>rw[Z] at O;exact O
 unfold cA cz at J;rw[Y,show ((a 0).int != (b 0).int)=true from by rw[a0,V];simpa using U] at J;have t1:ltI (a 1).int (b 2).int=true:=gJ (by omega);have t2:ltI (b 1).int (a 2).int=true:=gJ (by omega);have J:(bif ltI (a 1).int (b 2).int then ltI (b 1).int (a 2).int else false)=false:=J;rw[t1,t2] at J;cases J
theorem wT(z n:D):(lH z (.l [[.l [[n]]]])).rows=z.rows.filter fun r => !((r 0).int==n.int):=rfl
theorem zM{z n:D}{r:b8}:r∈(lH z (.l [[.l [[n]]]])).rows↔r∈z.rows/\(r 0).int≠n.int:=by rw[wT,t8];simp
theorem WG{z n:D}{m:Int}:m∈ai (lH z (.l [[.l [[n]]]]))↔m∈ai z/\m≠n.int:=by
 rw[cK,cK];constructor
 ·rintro⟨r,J,rfl⟩;obtain⟨h1,O⟩:=zM.1 J;exact⟨⟨r,h1,rfl⟩,O⟩
 ·rintro⟨⟨r,J,rfl⟩,h⟩;exact⟨r,zM.2 ⟨J,h⟩,rfl⟩
theorem aec{z n:D}(h:aR z=true){r:b8}:r∈(jg z n).rows↔r∈z.rows/\(r 0).int≠n.int:=by rw[uC h,t8];simp
theorem ajM{z n:D}(h:(ai z).Pairwise (· < ·)){m:Int}:m∈ai (bC z n)↔m=n.int\/m∈ai z:=by rw[eU h,sA]
theorem Sl{h:D}(hs:(ai h).Pairwise (· < ·)){k:Nat}(hk:k<h.rows.length){r:b8}:r∈(mH h (k:Int)).rows↔r∈h.rows/\(gd r 0).int≠(gd (h.rows.getD k []) 0).int:=by
 show r∈h.rows.take (k:Int).toNat++h.rows.drop ((k:Int).toNat+1)↔_;rw[g4,m7];have O:=sP (f:=fun k=>(gd (h.rows.getD k []) 0).int) (ui.1 hs);constructor
 ·rintro (h1 | h1)
  ·obtain⟨j,J,rfl⟩:=n9 h1;rw[s9] at J;rw[J8];refine⟨p9 _,?_⟩;have:=O k j (by omega) hk;rw[<- aU (show j<h.rows.length by omega)];omega
  ·obtain⟨j,J,rfl⟩:=n9 h1;rw[t5] at J;rw[J9];refine⟨p9 _,?_⟩;have:=O (k+1+j) k (by omega) (by omega);rw[<- aU (show k+1+j<h.rows.length by omega)];omega
 ·rintro⟨h1,U⟩;obtain⟨j,J,rfl⟩:=n9 h1;rw[<- aU J] at U;rcases Nat.lt_trichotomy j k with h3 | h3 | h3
  ·exact .inl (H8.2 ⟨j,by rw[s9];omega,J8 ..⟩)
  ·subst h3;exact absurd rfl U
  ·refine .inr (H8.2 ⟨j - (k+1),by rw[t5];omega,?_⟩);rw[J9]
   congr 1
   omega
theorem agA{h:D}(hs:(ai h).Pairwise (· < ·))(k:Nat):(ai (mH h (k:Int))).Pairwise (· < ·):=by
 have:ai (mH h (k:Int))=(ai h).take k++(ai h).drop (k+1):=by unfold ai mH;rw[bp,u9,M7,M8,g4]
 rw[this];refine hs.sublist ?_;rw[show (ai h).take k++(ai h).drop (k+1)=(ai h).eraseIdx k from (List.eraseIdx_eq_take_drop_succ ..).symm];exact List.eraseIdx_sublist ..
theorem ZZ(c:D){h:D}{k:Nat}(hk:k<h.rows.length):ev c (mH h (k:Int)).rows+bi c (gd (h.rows.getD k []) 1)=ev c h.rows:=by
 show ev c (h.rows.take (k:Int).toNat++h.rows.drop ((k:Int).toNat+1))+_=_;rw[g4,xg];have e:ev c h.rows=ev c (h.rows.take k)+(bi c (gd (h.rows.getD k []) 1)+ev c (h.rows.drop (k+1))):=by
  have e1:h.rows=h.rows.take k++(h.rows.getD k []::h.rows.drop (k+1)):=by rw[aU hk,<- H4 hk,F4]
  conv=>lhs;rw[e1]
  rw[xg]
  congr 1
 omega
theorem NK{c J:D}{l:List b8}(h:∀r∈l,bi c (r 1)=bi J (r 1)):ev c l=ev J l:=by
 unfold ev
 congr 1
 exact B3 h
theorem Yx{p:b8}{n C H:D}(hsh:aY (sub p 0 9)=true)(hin:inB n.int 1 60=true)(hC:aN C=true)(a6:∀r∈C.rows,ax (p 1) (dX r)=true)(hH:(ai H).Pairwise (· < ·))(a5:∀r∈H.rows,r∈(dH p).rows/\(r 0).int≠n.int)
  (Z:(C:Int)+ev C H.rows<=60):SOk (sub (Vc p n C H) 0 9):=by
 have s:=(cQ _).1 hsh;have Y:aR (.l (p 4).rows)=true:=s.lk;have a3:∀r∈(p 4).rows,LOk (p 1) (p 6) (p 7) r:=s.lo;have a2:∀r∈(p 5).rows,HOk (p 4) (p 6) (p 7) r:=s.h1;have a1:∀m∈ai (p 6),m ∉ ai (p 7):=s.we;have a4:∀r∈(p 6).rows,inB (r 0).int 1 60=true:=s.w1;have se:(ai (.l (p 7).rows)).Pairwise (· < ·):=s.e;have a0:∀r∈(p 7).rows,inB (r 0).int 1 60=true:=s.e1;have V:∀m,m∈ai (bC (.l (p 7).rows) n)↔m=n.int\/m∈ai (p 7):=fun m=>ajM se
 have hW:∀m,m∈ai (lH (.l (p 6).rows) (.l [[.l [[n]]]]))↔m∈ai (p 6)/\m≠n.int:=fun m=>WG
 have hL:∀r,r∈(jg (.l (p 4).rows) n).rows↔r∈(p 4).rows/\(r 0).int≠n.int:=fun r=>aec Y
 refine⟨s.me,s.own,s.frz,hC,Wc Y,s.rk,?_,fun r O=>?_,JZ se,fun r O=>?_,fun r O=>(IR _ _).trans (s.fr r O),fun r O=>(IR _ _).trans (a6 r O),fun r O=>?_,fun m J=>?_,hH,fun r O=>?_,Z⟩
 ·have:ai (lH (.l (p 6).rows) (.l [[.l [[n]]]]))=(ai (p 6)).filter fun m => !(m==n.int):=by unfold ai;rw[wT,F9];rfl
  show (ai (lH (.l (p 6).rows) (.l [[.l [[n]]]]))).Pairwise (· < ·);rw[this];exact List.Pairwise.filter _ s.w
 ·exact a4 r (zM.1 O).1
 ·have J:(r 0).int∈ai (bC (.l (p 7).rows) n):=(cK _ _).2 ⟨r,O,rfl⟩;rcases (V _).1 J with h | h
  ·rw[h];exact hin
  ·obtain⟨x,hx,e⟩:=(cK _ _).1 h;rw[<- e];exact a0 x hx
 ·obtain⟨h1,U⟩:=(hL r).1 O;have h3:=a3 r h1;refine⟨(IR _ _).trans h3.rg,fun J=>h3.nw ((hW _).1 J).1,fun J=>?_⟩;rcases (V _).1 J with h | h
  ·exact U h
  ·exact h3.ne h
 ·obtain⟨h1,U⟩:=(hW m).1 J;intro J;rcases (V _).1 J with h | h
  ·exact U h
  ·exact a1 m h1 h
 ·obtain⟨h1,U⟩:=a5 r O;have h1:r∈(dpS p 5).rows:=h1;rw[fd] at h1;obtain⟨x,hx,rfl⟩:=y4.1 h1;have H:=a2 x hx;refine⟨H.tx,H.ws,fun v hv=>?_,fun J=>H.nw ((hW _).1 J).1,fun J=>?_⟩
  ·obtain⟨y,hy,h⟩:=dS.1 (H.lk v hv);refine dS.2 ⟨y,(hL y).2 ⟨hy,?_⟩,h⟩;rw[xb h];exact U
  ·rcases (V _).1 J with h | h
   ·exact U h
   ·exact H.ne h
theorem aiK{p:b8}{n:D}(hn:n.int∈ai (gd p 5)):∃k:Nat,k<(dH p).rows.length/\GD p n=(k:Int)/\(gd ((dH p).rows.getD k []) 0).int=n.int:=by
 have O:(aB (dH p)).rows.length=(dH p).rows.length:=m9 ..;have J:∀k,k<(dH p).rows.length->gd ((aB (dH p)).rows.getD k []) 0=gd ((dH p).rows.getD k []) 0:=fun k hk=>by show gd (((dH p).rows.map fun r => [gd r 0]).getD k []) 0=_;rw[f9,u6,g6 hk,aU hk];rfl
 rcases je (fun k=>n.int==(gd ((aB (dH p)).rows.getD k []) 0).int) (aB (dH p)).rows.length 0 with⟨_,h⟩ | ⟨k,h1,h2,h3,_⟩
 ·have hn:n.int∈ai (gd (sub p 0 9) 5):=hn;rw[<- mO (sub p 0 9)] at hn;obtain⟨r,U,e⟩:=(cK _ _).1 hn;obtain⟨k,hk,rfl⟩:=n9 U;have hk:k<(dH p).rows.length:=hk;have:=h k (by rw[O];exact hk);simp only[i9] at this;rw[J k hk,aU hk] at this;have e:(gd (dH p).rows[k] 0).int=n.int:=e;rw[e,n8] at this;cases this
 ·simp only[i9] at h2 h3;rw[O] at h1;refine⟨k,h1,h2,?_⟩;rw[J k h1] at h3;exact (p6.1 h3).symm
theorem akf{p:b8}{n:D}(hn:n.int ∉ ai (gd p 5)):leI 0 (GD p n)=false:=by
 have O:(aB (dH p)).rows.length=(dH p).rows.length:=m9 ..;rcases je (fun k=>n.int==(gd ((aB (dH p)).rows.getD k []) 0).int) (aB (dH p)).rows.length 0 with⟨h,_⟩ | ⟨k,h1,h2,h3,_⟩
 ·have h:GD p n = -1:=h;rw[h];rfl
 ·simp only[i9] at h2 h3;rw[O] at h1;have J:gd ((aB (dH p)).rows.getD k []) 0=gd ((dH p).rows.getD k []) 0:=by show gd (((dH p).rows.map fun r => [gd r 0]).getD k []) 0=_;rw[f9,u6,g6 h1,aU h1];rfl
  rw[J] at h3;refine absurd ?_ hn;show n.int∈ai (gd (sub p 0 9) 5);rw[<- mO (sub p 0 9)];exact (cK _ _).2 ⟨(dH p).rows.getD k [],by rw[aU h1];exact p9 _,(p6.1 h3).symm⟩
theorem SD{p:b8}(hsh:aY (sub p 0 9)=true):(p 3:Int)+ev (p 3) (dH p).rows<=60:=by have s:=(cQ _).1 hsh;have:=s.sum;rw[abW];exact this
theorem abE{p:b8}(hsh:aY (sub p 0 9)=true){w:D}:aO w=true->0<=bi (p 3) w:=fun hw=>by have s:=(cQ _).1 hsh;have st:aN (p 3)=true:=s.st;rw[afD st hw];exact Int.natCast_nonneg _
section
variable {p:b8} {n:D} (hsh:aY (sub p 0 9)=true) (hin:inB n.int 1 60=true)
include hsh hin
theorem agS{k:Nat}(hk:k<(dH p).rows.length)(hn:(gd ((dH p).rows.getD k []) 0).int=n.int):SOk (sub (Vc p n (gd (dpS p) 3) (mH (dH p) (k:Int))) 0 9):=by
 have s:=(cQ _).1 hsh;have hs:(ai (dH p)).Pairwise (· < ·):=by show (ai (gd (dpS p) 5)).Pairwise (· < ·);rw[mO];exact s.h
 have J:(dH p).rows.getD k []∈(gd (dpS p) 5).rows:=by rw[aU hk];exact p9 hk
 refine Yx hsh hin s.st s.ce (agA hs k) (fun r O=>?_) ?_
 ·have:=(Sl hs hk).1 O
  rwa [hn] at this
 ·have h1:=SD hsh;have V:=ZZ (gd p 3) hk;have Y:0<=bi (gd p 3) (gd ((dH p).rows.getD k []) 1):=by refine abE hsh ?_;rw[fd] at J;obtain⟨x,U,e⟩:=y4.1 J;rw[<- e];exact (s.h1 x U).ws
  show ((gd p 3).rows.length:Int)+ev (gd p 3) (mH (dH p) (k:Int)).rows<=60;omega
theorem acP{k:Nat}(hk:k<(dH p).rows.length)(hn:(gd ((dH p).rows.getD k []) 0).int=n.int) :
  aO (gd ((dH p).rows.getD k []) 1)=true/\((gd p 3).rows.length:Int)+bi (gd p 3) (gd ((dH p).rows.getD k []) 1)<=60 /\
  fh (gd (dpS p) 3) (gd ((dH p).rows.getD k []) 1)=wrD (.l (gd p 3).rows) (gd ((dH p).rows.getD k []) 1) (gd ((dH p).rows.getD k []) 1).rows.length /\
  SOk (sub (Vc p n (wrD (.l (gd p 3).rows) (gd ((dH p).rows.getD k []) 1) (gd ((dH p).rows.getD k []) 1).rows.length) (mH (dH p) (k:Int))) 0 9):=by
 have s:=(cQ _).1 hsh;have st:aN (.l (gd p 3).rows)=true:=s.st;have a2:aR (gd p 4)=true:=s.lk;have a1:∀r∈(gd p 3).rows,ax (gd p 1) (dX r)=true:=s.ce;have a5:∀r∈(gd p 4).rows,LOk (gd p 1) (gd p 6) (gd p 7) r:=s.lo;have a3:∀r∈(gd p 5).rows,HOk (gd p 4) (gd p 6) (gd p 7) r:=s.h1;have hs:(ai (dH p)).Pairwise (· < ·):=by show (ai (gd (dpS p) 5)).Pairwise (· < ·);rw[mO];exact s.h
 have Y:(dH p).rows.getD k []∈(gd (dpS p) 5).rows:=by rw[aU hk];exact p9 hk
 have hd:=ZZ (gd p 3) hk;have a7:=SD hsh;have V:∀r∈(dH p).rows,HOk (gd p 4) (gd p 6) (gd p 7) r:=fun r J=>by have J:r∈(gd (dpS p) 5).rows:=J;rw[fd] at J;obtain⟨x,hx,rfl⟩:=y4.1 J;have H:=a3 x hx;exact⟨H.tx,H.ws,H.lk,H.nw,H.ne⟩
 have HK:=V _ Y;have a8:0<=ev (gd p 3) (mH (dH p) (k:Int)).rows:=by
  have:∀l:List b8,(∀r∈l,r∈(dH p).rows)->0<=ev (gd p 3) l:=fun l=>by
   induction l with
   | nil=>exact fun _=>F8 _
   | cons a l ih =>
    intro h;have h1:=ih fun r J=>h r (by simp[J])
    have h2:=abE hsh (V a (h a (by simp))).ws;have e:ev (gd p 3) (a::l)=bi (gd p 3) (gd a 1)+ev (gd p 3) l:=by unfold ev;rw[u5,List.sum_cons]
    omega
  exact this _ fun r J=>((Sl hs hk).1 J).1
 have U:=fun r=>Sl hs hk (r:=r)
 obtain⟨h,hh⟩:∃h,h=(dH p).rows.getD k []:=⟨_,rfl⟩;rw[<- hh] at hn Y hd HK U ⊢;have hw:=HK.ws;obtain⟨_,wk,_⟩:=(pt _).1 hw;have O:bi (.l (gd p 3).rows) (gd h 1)=bi (gd p 3) (gd h 1):=rfl;have Z:((D.l (gd p 3).rows).rows.length:Int)+bi (.l (gd p 3).rows) (gd h 1)<=60:=by rw[O,bp];omega
 have a6:=WP st hw Z;have a0:=QZ st hw;refine⟨hw,by rw[O,bp] at Z;exact Z,?_,?_⟩
 ·have hb:nE (gd (dpS p) 3) (gd h 1)=true:=by unfold nE;have e1:aN (gd (dpS p) 3)=true:=st;rw[e1,hw];have:ltI 60 ((wrD (.l (gd (dpS p) 3).rows) (gd h 1) (gd h 1).rows.length).rows.length:Int)=false:=gh (by show ((wrD (.l (gd p 3).rows) (gd h 1) (gd h 1).rows.length).rows.length:Int)<=60;omega);rw[this];rfl
  unfold fh;rw[hb];rfl
 ·refine Yx hsh hin a6 (fun r J=>?_) (agA hs k) (fun r J=>?_) ?_
  ·have hm:((gd r 0).int,(gd r 1).int)∈prs (wrD (.l (gd p 3).rows) (gd h 1) (gd h 1).rows.length):=y4.2 ⟨r,J,rfl⟩;rcases (yn st hw _).1 hm with⟨v,hv,_,e⟩ | ⟨hm,_⟩
   ·have e:(gd r 0).int=(gd v 0).int:=congrArg Prod.fst e;have a4:=(wk v hv).1;obtain⟨y,hy,h2⟩:=dS.1 (HK.lk v hv);obtain⟨_,b1,b2,_⟩:=JD h2;refine LZ (r:=v) ?_ e.symm;exact aaG (lo:=gd y 1) (hi:=gd y 2) (a5 y hy).rg b1 b2 (aer a4)
   ·obtain⟨x,hx,e⟩:=y4.1 hm;have e:(gd x 0).int=(gd r 0).int:=congrArg Prod.fst e;exact LZ (a1 x hx) e
  ·have:=(U r).1 J
   rwa [hn] at this
  ·have he:ev (wrD (.l (gd p 3).rows) (gd h 1) (gd h 1).rows.length) (mH (dH p) (k:Int)).rows=ev (gd p 3) (mH (dH p) (k:Int)).rows:=by
    refine NK fun r J=>?_
    obtain⟨r1,r2⟩:=(U r).1 J;have R:=V r r1;obtain⟨_,rk,_⟩:=(pt _).1 R.ws;exact adq st hw Z fun a ha v hv=>YK a2 (R.lk a ha) (HK.lk v hv) r2 (rk a ha).1 (wk v hv).1
   rw[he];rw[O,bp] at a0;omega
end
def inZ(z:D)(k:Int):Prop:=∃r∈z.rows,(r 0).int<=k/\k<(r 1).int
theorem Sc{z:D}{k:Int}:inZ z k↔∃j,j<z.rows.length/\(z.rows.getD j [] 0).int<=k/\k<(z.rows.getD j [] 1).int:=by
 constructor
 ·rintro⟨r,O,h⟩;obtain⟨j,J,rfl⟩:=n9 O;exact⟨j,J,by rw[aU J];exact h⟩
 ·rintro⟨j,J,h⟩;rw[aU J] at h;exact⟨_,p9 J,h⟩
theorem WU{z:D}(h:aV z=true):∀j i,i<j->j<z.rows.length->(z.rows.getD i [] 1).int<=(z.rows.getD j [] 0).int
 | 0,_,h1,_=>by omega
 | j+1,i,h1,h2=>by
  have a:(z.rows.getD j [] 1).int<=(z.rows.getD (j+1) [] 0).int:=by have h:=h;simp only[aV,a9,i6,m0] at h;have:=h.1 (j+1) h2;simp only[fH,a9,ltI,m6,y6] at this;omega
  by_cases e:i=j
  ·rw[e];exact a
  ·have:=WU h j i (by omega) (by omega);have:=mU h (j:=j) (by omega);omega
theorem uf(z a:D)(k:Nat):((z.rows.getD k [] 0).int<=(cH z a k).int/\(cH z a k).int<(z.rows.getD k [] 1).int/\cH z a (k+1)=z.rows.getD k [] 1)\/(¬((z.rows.getD k [] 0).int<=(cH z a k).int/\(cH z a k).int<(z.rows.getD k [] 1).int)/\cH z a (k+1)=cH z a k):=by
 rw[cH];cases h:leI (z k 0).int (cH z a k).int&&ltI (cH z a k).int (z k 1).int with
 | true =>rw[a9] at h;exact .inl ⟨j9 h.1,j9 h.2,rfl⟩
 | false =>refine .inr ⟨fun⟨h1,J⟩=>?_,rfl⟩;rw[bb h1,gJ J] at h;cases h
theorem aiy(z a:D)(k:Nat):(cH z a k).int<=(cH z a (k+1)).int:=by rcases uf z a k with⟨_,h,e⟩ | ⟨_,e⟩ <;> rw[e] <;> omega
theorem JU(z a:D){i:Nat}:∀ {j},i<=j->(cH z a i).int<=(cH z a j).int
 | 0,h=>by rw[Nat.le_zero.1 h];exact F8 _
 | j+1,h=>by
  by_cases e:i=j+1
  ·rw[e];exact F8 _
  ·have h1:=JU z a (show i<=j by omega);have J:=aiy z a j;omega
theorem aam(z a:D):∀j,j<=z.rows.length->∀k,a.int<=k->k<(cH z a j).int->inZ z k
 | 0,_,k,h1,J=>by have J:k<a.int:=J;omega
 | j+1,hj,k,h1,J=>by
  by_cases hk:k<(cH z a j).int
  ·exact aam z a j (by omega) k h1 hk
  ·rcases uf z a j with⟨U,O,e⟩ | ⟨_,e⟩ <;> rw[e] at J
   ·exact Sc.2 ⟨j,hj,by omega,J⟩
   ·omega
theorem pM{z:D}{q:b8}(hz:aV z=true)(hq:ar q=true):ax z q=true↔∀k,(q 0).int<=k->k<(q 1).int->inZ z k:=by
 have e:ax z q=leI (q 1).int (cH z (q 0) z.rows.length).int:=by unfold ax;rw[hz,hq];rfl
 rw[e,leI,f7];constructor
 ·intro h k h1 Z;exact aam z (q 0) z.rows.length (g8 _) k h1 (by omega)
 ·intro h;apply Classical.byContradiction;intro hn;have V:(q 0).int<=_:=JU z (q 0) (y5 z.rows.length);obtain⟨j,U,h1,Z⟩:=Sc.1 (h (cH z (q 0) z.rows.length).int V (by omega));have u1:=JU z (q 0) (show j+1<=z.rows.length from U);have u0:=JU z (q 0) (Nat.le_of_lt U);rcases uf z (q 0) j with⟨s1,s2,O⟩ | ⟨s1,O⟩
  ·rw[O] at u1;omega
  ·have r1:=mU hz U;have st:∀m,j+1+m<=z.rows.length->cH z (q 0) (j+1+m)=cH z (q 0) j:=fun m=>by
    induction m with
    | zero=>exact fun _=>O
    | succ m J =>
     intro hm;have J:=J (by omega);rcases uf z (q 0) (j+1+m) with⟨Y,_,_⟩ | ⟨_,t⟩
     ·have:=WU hz (j+1+m) j (by omega) (by omega);rw[J] at Y;omega
     ·exact t.trans J
   have:=st (z.rows.length - (j+1)) (by omega);rw[show j+1+(z.rows.length - (j+1))=z.rows.length by omega] at this;rw[this] at h1;omega
structure KP(n:Nat)(C:Nat->Bool)(rs:List b8):Prop where
 fm:∀r∈rs,∃a b:Nat,r = [.i a,.i b]/\a<b/\b<=n
 up:rs.Pairwise fun r s=>(r 1).int<(s 0).int
 ky:∀k:Nat,(∃r∈rs,(r 0).int<=k/\(k:Int)<(r 1).int)↔k<n/\C k=true
theorem KP.new{n:Nat}{C:Nat->Bool}{rs:List b8}(h:KP n C rs)(hc:C n=true)(U:∀r∈rs,(r 1).int<n):KP (n+1) C (rs ++ [[.i n,.i ((n:Int)+1)]]):=by
 refine⟨fun r J=>?_,C1.2 ⟨h.up,I9 _ _,fun a Z b Y=>?_⟩,fun k=>?_⟩
 ·rcases m7.1 J with J | J
  ·obtain⟨a,b,e,h1,O⟩:=h.fm r J;exact⟨a,b,e,h1,by omega⟩
  ·exact⟨n,n+1,n4.1 J,by omega,by omega⟩
 ·rw[n4.1 Y];exact U a Z
 ·constructor
  ·rintro⟨r,J,h1,O⟩;rcases m7.1 J with J | J
   ·have:=(h.ky k).1 ⟨r,J,h1,O⟩;exact⟨by omega,this.2⟩
   ·rw[n4.1 J] at h1 O;have h1:(n:Int)<=k:=h1;have O:(k:Int)<n+1:=O;have:k=n:=by omega
    exact⟨by omega,this▸hc⟩
  ·rintro⟨h1,O⟩;by_cases e:k=n
   ·exact⟨_,H3 _ (n4.2 rfl),by show (n:Int)<=k;omega,by show (k:Int)<n+1;omega⟩
   ·obtain⟨r,J,V⟩:=(h.ky k).2 ⟨by omega,O⟩;exact⟨r,I3 _ J,V⟩
theorem akg(C:Nat->Bool):∀n,KP n C (kpR C n)
 | 0=>⟨fun r J=>(E3 J).elim,.nil,fun k=>⟨fun⟨r,J,_⟩=>(E3 J).elim,fun h=>absurd h.1 (D5 k)⟩⟩
 | n+1=>by
  have O:=akg C n;rw[kpR];cases hc:C n with
  | false =>
   refine⟨fun r J=>?_,O.up,fun k=>(O.ky k).trans ⟨fun h=>⟨by omega,h.2⟩,fun h=>⟨?_,h.2⟩⟩⟩
   ·obtain⟨a,b,e,h1,h2⟩:=O.fm r J;exact⟨a,b,e,h1,by omega⟩
   ·by_cases e:k=n
    ·rw[e,hc] at h;exact absurd h.2 (by decide)
    ·omega
  | true =>
   rw[f8];generalize kpR C n=rs at *;rcases List.eq_nil_or_concat rs with rfl | ⟨o,x,e⟩
   ·rw[NR (.inl rfl)];exact O.new hc fun r J=>(E3 J).elim
   ·obtain rfl:=e.trans (List.concat_eq_append ..);obtain⟨a,b,rfl,h1,h2⟩:=O.fm x (by simp);obtain⟨u1,_,Y⟩:=C1.1 O.up;have Y:∀r∈o,(r 1).int<a:=fun r J=>Y r J _ (n4.2 rfl)
    by_cases hb:b=n
    ·subst hb;rw[Ql];refine⟨fun r J=>?_,C1.2 ⟨u1,I9 _ _,fun r J s hs=>?_⟩,fun k=>?_⟩
     ·rcases m7.1 J with J | J
      ·obtain⟨c,d,e,U,V⟩:=O.fm r (I3 _ J);exact⟨c,d,e,U,by omega⟩
      ·exact⟨a,b+1,n4.1 J,by omega,by omega⟩
     ·rw[n4.1 hs];exact Y r J
     ·have hk:=O.ky k;constructor
      ·rintro⟨r,J,U,V⟩;rcases m7.1 J with J | J
       ·have:=hk.1 ⟨r,I3 _ J,U,V⟩;exact⟨by omega,this.2⟩
       ·rw[n4.1 J] at U V;have U:(a:Int)<=k:=U;have V:(k:Int)<b+1:=V;by_cases e:k=b
        ·exact⟨by omega,e▸hc⟩
        ·have:=hk.1 ⟨_,H3 _ (n4.2 rfl),U,by show (k:Int)<b;omega⟩;exact⟨by omega,this.2⟩
      ·rintro⟨U,V⟩;by_cases e:k=b
       ·exact⟨_,H3 _ (n4.2 rfl),by show (a:Int)<=k;omega,by show (k:Int)<b+1;omega⟩
       ·obtain⟨r,J,h5,Z⟩:=hk.2 ⟨by omega,V⟩;rcases m7.1 J with J | J
        ·exact⟨r,I3 _ J,h5,Z⟩
        ·rw[n4.1 J] at h5 Z;have Z:(k:Int)<b:=Z;exact⟨_,H3 _ (n4.2 rfl),h5,by show (k:Int)<b+1;omega⟩
    ·have a0:iV (o ++ [[.i a,.i b]])<n:=by rw[zW];show (b:Int)<n;omega
     rw[NR (.inr a0)];refine O.new hc fun r J=>?_
     rcases m7.1 J with J | J
     ·have:=Y r J;omega
     ·rw[n4.1 J];show (b:Int)<n;omega
theorem KP.ok{n:Nat}{C:Nat->Bool}{rs:List b8}(h:KP n C rs)(hn:n<=1000)(O:rs.length<=16):aV (.l rs)=true:=by
 have J:∀k,k<rs.length->ar (sub (rs.getD k []) 0 2)=true:=fun k hk=>by rw[aU hk];obtain⟨a,b,e,h1,U⟩:=h.fm _ (p9 hk);rw[e];show (decide ((a:Int)>=0)&&(decide ((a:Int)<b)&&decide ((b:Int)<=1000)))=true;simp only[a9,f7];omega
 simp only[aV,a9,i6,m0];refine⟨fun k hk=>?_,bb (by show (rs.length:Int)<=16;omega)⟩;cases k with
 | zero=>exact J 0 hk
 | succ k =>have hk:k+1<rs.length:=hk;simp only[fH,a9,m6,bp];refine⟨J (k+1) hk,gh ?_⟩;have:=t9.1 h.up k (k+1) (by omega) hk (by omega);rw[aU hk,aU (show k<rs.length by omega)];omega
theorem Sx{z:D}{a:b8}{wi:D}(h:iQ z a wi=true):aV (.l (ng z a wi).rows)=true/\∀k,inZ (.l (ng z a wi).rows) k↔(((a 0).int<=k/\k<(a 1).int)/\wi.bool=true)\/(¬((a 0).int<=k/\k<(a 1).int)/\inZ z k):=by
 unfold iQ at h;simp only[a9,m6] at h;obtain⟨⟨hz,ha⟩,U⟩:=h;have U:¬(16:Int)<(ng z a wi:Int):=J6 U;have K:=akg (Bh (.l [[.l [sub a 0 2],.l [[wi]],.l [[z]]]])) 1000;have e:(ng z a wi).rows=kpR (Bh (.l [[.l [sub a 0 2],.l [[wi]],.l [[z]]]])) 1000:=rfl;rw[e] at U ⊢;refine⟨K.ok (g8 _) (by omega),fun k=>?_⟩;have O:=ha;simp only[ar,a9,f7] at O;obtain⟨a0,a1,a2⟩:=O;have a0:(a 0).int>=0:=a0;have a2:(a 1).int<=1000:=a2;have V:∀k:Nat,Bh (.l [[.l [sub a 0 2],.l [[wi]],.l [[z]]]]) k=true↔(((a 0).int<=k/\(k:Int)<(a 1).int)/\wi.bool=true)\/(¬((a 0).int<=k/\(k:Int)<(a 1).int)/\inZ z k):=fun k=>by
  rw[QT hz ha];unfold iP;have hi:inR a k=true↔((a 0).int<=k/\(k:Int)<(a 1).int):=by simp[inR,leI,ltI]
  have hy:jA z z.rows.length k=true↔inZ z k:=by rw[Sc];simp[jA,inR,leI,ltI]
  cases h:inR a k with
  | true =>rw[h] at hi;rw[f8];simp only[true_iff] at hi;simp[hi]
  | false =>rw[h] at hi;simp only[u4,false_iff] at hi;rw[f5,gX,hy];simp only[hi,false_and,not_false_eq_true,true_and,false_or]
 constructor
 ·rintro⟨r,J,h1,Y⟩;obtain⟨c,d,e,Z,h4⟩:=K.fm r J;have hk:∃m:Nat,k=m:=⟨k.toNat,by rw[e] at h1;have h1:(c:Int)<=k:=h1;omega⟩;obtain⟨m,rfl⟩:=hk;exact (V m).1 ((K.ky m).1 ⟨r,J,h1,Y⟩).2
 ·intro h;have hk:0<=k/\k<1000:=by
   rcases h with⟨h,_⟩ | ⟨_,h⟩
   ·omega
   ·obtain⟨j,hj,h1,Y⟩:=Sc.1 h;have:=mU hz hj;omega
  obtain⟨m,rfl⟩:∃m:Nat,k=m:=⟨k.toNat,by omega⟩;obtain⟨r,J,Z⟩:=(K.ky m).2 ⟨by omega,(V m).2 h⟩;exact⟨r,J,Z⟩
abbrev vF:=find []
theorem Ok:av f4 vF:=ap (fN)
abbrev vA:=[0,1,2,3,4,5,35]
abbrev d7:List Ce:=[.d si,.d (.sl 41),.d (.sl 41),.d (.sl 108),.d (.sl 93),.own (0,5) false 75,.d (.sl 3),.d (.sl 3),.d si]
def kt(N:Nat)(p:b8):b8->Out:=bc f4 vF N vA Tryz.f61 (.one (.agg d7)) [⟨ag aK,p⟩] 0
theorem Dr(N:Nat)(p:b8)(x0 x1 x2 x3 x4 x5 x6 x7 x8 x9 c3 a0 J b6 c5 a1 c4 c6 O Z a4 b3 b2 V c7 b1 a5 c2 a8 c0 a6 a2 b4 b0 a3 a7 U b5 c1 Y:D):(kt N p) [x0,x1,x2,x3,x4,x5,x6,x7,x8,x9,c3,a0,J,b6,c5,a1,c4,c6,O,Z,a4,b3,b2,V,c7,b1,a5,c2,a8,c0,a6,a2,b4,b0,a3,a7,U,b5,c1,Y] =
 bif ltI J.int O then nd (al J.int O.rows.length) (nd (bq ([]++(O.rows.getD J.int.toNat [] 1).rows)&&true) (nd (bq (U.rows ++ [[O.rows.getD J.int.toNat [] 0,.l ([]++(O.rows.getD J.int.toNat [] 1).rows)]])&&true) (nx [x0,x1,x2,x3,x4,x5,x6,x7,x8,x9,c3,a0,.i (w64 (J.int+1)),b6,c5,a1,c4,c6,O,Z,a4,b3,b2,V,c7,b1,a5,c2,a8,c0,a6,a2,b4,b0,a3,a7,.l (U.rows ++ [[O.rows.getD J.int.toNat [] 0,.l ([]++(O.rows.getD J.int.toNat [] 1).rows)]]),b5,c1,Y])))
 else ex 0 [x0,x1,x2,x3,x4,x5,x6,x7,x8,x9,c3,a0,J,b6,c5,a1,c4,c6,O,Z,a4,b3,b2,V,c7,b1,a5,c2,a8,c0,a6,a2,b4,b0,a3,a7,U,b5,c1,Y]:=by kernel_rfl
theorem OK(N:Nat)(p:b8):aZ f4 vF N vA Tryz.f61 (.one (.agg d7)) [⟨ag aK,p⟩]=some (bo,
 nd (bq ([]++(p 1).rows)&&true) (nd (bq ([]++(p 2).rows)&&true) (nd (bq ([]++(p 3).rows)&&true) (nd (bq ([]++(p 4).rows)&&true) ((let J:=ba (kt N p) N [p 0,p 1,p 2,p 3,p 4,p 5,p 6,p 7,p 8,.i 0,.i 0,.i 0,.i 0,p 0,p 1,p 2,p 3,p 4,p 5,p 6,p 7,p 8,.i 0,.l [],.l [],.l [],.l [],.l [],.l [],.l [],.i 0,p 0,.l ([]++(p 1).rows),.l ([]++(p 2).rows),.l ([]++(p 3).rows),.l ([]++(p 4).rows),.l [],.l [],.l [],p 8]
  nd J.isSome (nd (J.code==2) (nd (bq ([]++(J.pay 19).rows)&&true) (nd (bq ([]++(J.pay 20).rows)&&true) (some (1,[J.pay 31,J.pay 32,J.pay 33,J.pay 34,J.pay 35,J.pay 36,.l ([]++(J.pay 19).rows),.l ([]++(J.pay 20).rows),J.pay 39]))))))))))):=by kernel_rfl
def fF:Ent:=(61,e1 (ag aK) fun p=>(⟨.one (.agg d7),ddS p⟩,cv p))
theorem eY:aw f4 fF:=ck fun p h=>aq (N:=(gd p 5).rows.length+1) (ks:=vA) Ok Tryz.func61 fun hw=>by
 rw[OK];have h:cv p=true:=h;unfold cv at h;simp only[a9] at h;obtain⟨h1,V,Z,h4,h5,h6,h7,O⟩:=h;have hw:∀k,k<(gd p 5).rows.length->leI ((gd ((gd p 5).rows.getD k []) 1).rows.length:Int) 1000000=true:=fun k hk=>i6.1 O k (m0.2 hk)
 simp only[leI,f7] at h1 V Z h4 h5 h6 h7 hw;have q1:bq (gd p 1).rows=true:=bL (by omega);have q2:bq (gd p 2).rows=true:=bL (by omega);have q3:bq (gd p 3).rows=true:=bL (by omega);have J:bq (gd p 4).rows=true:=bL (by omega);have q6:bq (gd p 6).rows=true:=bL (by omega);have U:bq (gd p 7).rows=true:=bL (by omega);simp only[q1,q2,q3,J,C7,v6,aP];have e:=bM (L:=kt ((gd p 5).rows.length+1) p) (fun k => [gd p 0,gd p 1,gd p 2,gd p 3,gd p 4,gd p 5,gd p 6,gd p 7,gd p 8,.i 0,.i 0,.i 0,.i (k:Int),gd p 0,gd p 1,gd p 2,gd p 3,gd p 4,gd p 5,gd p 6,gd p 7,gd p 8,.i 0,.l [],.l [],.l [],.l [],.l [],.l [],.l [],.i 0,gd p 0,.l ((gd p 1).rows),.l ((gd p 2).rows),.l ((gd p 3).rows),.l ((gd p 4).rows),.l (kpL (fun _=>true) (fun k => [gd ((gd p 5).rows.getD k []) 0,.l (gd ((gd p 5).rows.getD k []) 1).rows]) k),.l [],.l [],gd p 8]) (gd p 5).rows.length 0 (fun k hk=>?_) ?_ (N:=(gd p 5).rows.length+1) (by omega)
 ·simp only[g9,show kpL (fun _=>true) (fun k => [gd ((gd p 5).rows.getD k []) 0,.l (gd ((gd p 5).rows.getD k []) 1).rows]) 0 = [] from rfl] at e;rw[e];show some (bo,nd (bq ([]++(gd p 6).rows)&&true) (nd (bq ([]++(gd p 7).rows)&&true) (some (1,[gd p 0,.l (gd p 1).rows,.l (gd p 2).rows,.l (gd p 3).rows,.l (gd p 4).rows,.l (kpL (fun _=>true) (fun k => [gd ((gd p 5).rows.getD k []) 0,.l (gd ((gd p 5).rows.getD k []) 1).rows]) (gd p 5).rows.length),.l ([]++(gd p 6).rows),.l ([]++(gd p 7).rows),gd p 8]))))=_;simp only[C7,q6,U,v6,aP];rfl
 ·show kt _ p [_,_,_,_,_,_,_,_,_,_,_,_,.i (k:Int),_,_,_,_,_,_,_,_,_,_,_,_,_,_,_,_,_,_,_,_,_,_,_,_,_,_,_]=_;rw[Dr];have a0:=hw k hk;have Y:=fX (fun _=>true) (fun k => [gd ((gd p 5).rows.getD k []) 0,.l (gd ((gd p 5).rows.getD k []) 1).rows]) k;have l1:bq (gd ((gd p 5).rows.getD k []) 1).rows=true:=bL (by omega);have l2:bq (kpL (fun _=>true) (fun k => [gd ((gd p 5).rows.getD k []) 0,.l (gd ((gd p 5).rows.getD k []) 1).rows]) k ++ [[gd ((gd p 5).rows.getD k []) 0,D.l (gd ((gd p 5).rows.getD k []) 1).rows]])=true:=bL (by rw[i5];show _+1<=_;omega);simp only[aE,bp,cy hk,bn hk,g4,aF hk (show (gd p 5).rows.length<=9223372036854775807 by omega),C7,l1,l2,v6,aP];rfl
 ·show kt _ p [_,_,_,_,_,_,_,_,_,_,_,_,.i ((gd p 5).rows.length:Int),_,_,_,_,_,_,_,_,_,_,_,_,_,_,_,_,_,_,_,_,_,_,_,_,_,_,_]=_;rw[Dr];simp only[aE,bF]
abbrev vD:=find [fF]
abbrev wb:=[0,1,2,4,6]
theorem FR(N:Nat)(p q:b8):aZ f4 vD N wb Tryz.f60 (.one (.agg d7)) [⟨ag aK,p⟩,⟨ri,q⟩]=some (bo,
 bif (q 0).int==1 then some (1,[.i 0,.l [],.l [],.l [],.l [],.l [],.l [],.l [],.i 0])
 else nd (cv (sub p 0 9)) (some (1,dpS p))):=by kernel_rfl
def il:Ent:=(60,e2 (ag aK) ri fun p q=>(⟨.one (.agg d7),sub (cM p (q 0).int) 0 9⟩,cv p||(q 0).int==1))
theorem iK:aw f4 il:=bj fun p q h=>aq (N:=0) (ks:=wb) (ap (fC ⟨eY,fN⟩)) Tryz.func60 fun hw=>by
 rw[FR];have h:(cv p||(q 0).int==1)=true:=h;cases J:(q 0).int==1 with
 | true =>show some (bo,some (1,_))=some (bo,some (1,sub (cM p (q 0).int) 0 9));unfold cM;rw[J];rfl
 | false =>rw[J,K7] at h;have h:cv (sub p 0 9)=true:=h;rw[h];show some (bo,some (1,_))=some (bo,some (1,sub (cM p (q 0).int) 0 9));unfold cM;rw[J];rfl
abbrev tF:=find [uq,yt]
abbrev tY:=[0,1,2,4,5,9]
def jh(N:Nat)(p q:b8):b8->Out:=bc f4 tF N tY Tryz.f67 (.one (.agg [.d si,.d (.sl 41),.d (.sl 41),.d (.sl 108),.d (.sl 93),.d .opq,.d (.sl 3),.d (.sl 3),.d si])) [⟨.one (.agg [.d si,.d (.sl 41),.d (.sl 41),.d (.sl 108),.d (.sl 93),.d (.opq),.d (.sl 3),.d (.sl 3),.d si]),p⟩,⟨sd (.sl 3),q⟩] 0
theorem zd(N:Nat)(p q:b8)(x0 x1 x2 x3 x4 x5 x6 x7 x8 O b3 Z J b0 b5 a0 b4 V a8 U a1 a7 a6 Y b6 a5 a2 b2 a4 b1 a3:D):(jh N p q) [x0,x1,x2,x3,x4,x5,x6,x7,x8,O,b3,Z,J,b0,b5,a0,b4,V,a8,U,a1,a7,a6,Y,b6,a5,a2,b2,a4,b1,a3] =
 bif ltI J.int O then nd (al J.int O.rows.length) (nd (leI V 1000000000) (nd (al J.int O.rows.length) (nd (leI U 1000000000) (nx [x0,x1,x2,x3,x4,x5,x6,x7,x8,O,b3,Z,.i (w64 (J.int+1)),b0,b5,a0,b4,iX V (O.rows.getD J.int.toNat [] 0).int false,a8,bC U (O.rows.getD J.int.toNat [] 0),a1,a7,a6,Y,b6,a5,a2,b2,a4,b1,a3]))))
 else ex 0 [x0,x1,x2,x3,x4,x5,x6,x7,x8,O,b3,Z,J,b0,b5,a0,b4,V,a8,U,a1,a7,a6,Y,b6,a5,a2,b2,a4,b1,a3]:=by kernel_rfl
theorem LM(N:Nat)(p q:b8):aZ f4 tF N tY Tryz.f67 (.one (.agg [.d si,.d (.sl 41),.d (.sl 41),.d (.sl 108),.d (.sl 93),.d .opq,.d (.sl 3),.d (.sl 3),.d si])) [⟨.one (.agg [.d si,.d (.sl 41),.d (.sl 41),.d (.sl 108),.d (.sl 93),.d (.opq),.d (.sl 3),.d (.sl 3),.d si]),p⟩,⟨sd (.sl 3),q⟩]=some (bo,
 (let J:=ba (jh N p q) N [p 0,p 1,p 2,p 3,p 4,p 5,p 6,p 7,p 8,q 0,.i 0,.i 0,.i 0,p 0,p 1,p 2,p 3,p 4,p 5,p 6,p 7,p 8,.i 0,.l [],.l [],.l [],.l [],.l [],.l [],.l [],.i 0]
  nd J.isSome (nd (J.code==2) (some (1,sub J.pay 13 9))))):=by kernel_rfl
def SC:Ent:=(67,e2 (.one (.agg [.d si,.d (.sl 41),.d (.sl 41),.d (.sl 108),.d (.sl 93),.d (.opq),.d (.sl 3),.d (.sl 3),.d si])) (sd (.sl 3)) fun p q=>(⟨.one (.agg [.d si,.d (.sl 41),.d (.sl 41),.d (.sl 108),.d (.sl 93),.d .opq,.d (.sl 3),.d (.sl 3),.d si]),sub (eo p (q 0)) 0 9⟩,leI (p 4) 100000000&&(leI (p 6) 100000000&&leI (q 0) 100000000)))
theorem KA:aw f4 SC:=bj fun p q h=>aq (N:=(q 0).rows.length+1) (ks:=tY) (ap (fC ⟨tn,fC ⟨xT,fN⟩⟩)) Tryz.func67 fun hw=>by
 rw[LM];have h:(leI (p 4) 100000000&&(leI (p 6) 100000000&&leI (q 0) 100000000))=true:=h;simp only[a9,leI,f7] at h;obtain⟨h1,U,V⟩:=h;have e:=bM (L:=jh ((q 0).rows.length+1) p q) (fun k => [p 0,p 1,p 2,p 3,p 4,p 5,p 6,p 7,p 8,q 0,.i 0,.i 0,.i (k:Int),p 0,p 1,p 2,p 3,(fp (p 4) (p 6) (q 0) k).1,p 5,(fp (p 4) (p 6) (q 0) k).2,p 7,p 8,.i 0,.l [],.l [],.l [],.l [],.l [],.l [],.l [],.i 0]) (q 0).rows.length 0 (fun k hk=>?_) ?_ (N:=(q 0).rows.length+1) (by omega)
 ·simp only[g9] at e;rw[show (fp (p 4) (p 6) (q 0) 0).1=p 4 from rfl,show (fp (p 4) (p 6) (q 0) 0).2=p 6 from rfl] at e;rw[e];rfl
 ·show jh _ p q [_,_,_,_,_,_,_,_,_,_,_,_,.i (k:Int),_,_,_,_,_,_,_,_,_,_,_,_,_,_,_,_,_,_]=_;rw[zd];obtain⟨Y,Z⟩:=Bi (p 4) (p 6) (q 0) k;have O:leI ((fp (p 4) (p 6) (q 0) k).1.rows.length:Int) 1000000000=true:=bb (by omega);have J:leI ((fp (p 4) (p 6) (q 0) k).2.rows.length:Int) 1000000000=true:=bb (by omega);simp only[aE,cy hk,bn hk,g4,aF hk (show (q 0).rows.length<=9223372036854775807 by omega),O,J,aP];rfl
 ·show jh _ p q [_,_,_,_,_,_,_,_,_,_,_,_,.i (q 0:Int),_,_,_,_,_,_,_,_,_,_,_,_,_,_,_,_,_,_]=_;rw[zd];simp only[aE,bF]
abbrev yE:List Ce:= [.d si,.d (.sl 41),.d (.sl 41),.d (.sl 108),.d (.sl 93),.any,.d (.sl 3),.d (.sl 3),.d si]
def ou:Ent:=(67,e2 (ag aK) (sd (.sl 3)) fun p q=>(⟨.tup [.agg [.kb false,.any,.any,.any,.d si,.d (.sl 41),.d (.sl 41),.d (.sl 108),.d (.sl 93),.any,.d (.sl 3),.d (.sl 3),.d si]],sub (eo p (q 0)) 0 9⟩,leI (p 4) 100000000&&(leI (p 6) 100000000&&leI (q 0) 100000000)))
theorem oY:aw f4 ou:=bj fun p q h=>by
 refine aQ.ofT (cs:=yE) (az:=aK) (p:=p) (q:=sub (eo p (q 0)) 0 9) (rest:= [⟨sd (.sl 3),q⟩]) rfl rfl fun J=>?_
 have U:tJ yE 0 p J 4=p 4:=by simp only[yE,tJ,aL,aJ,dG]
 have O:tJ yE 0 p J 6=p 6:=by simp only[yE,tJ,aL,aJ,dG]
 have H:=KA [⟨.one (.agg ((Kd yE aK).map .d)),tJ yE 0 p J⟩,⟨sd (.sl 3),q⟩] ⟨.one (.agg (OO yE)),sub (eo (tJ yE 0 p J) (q 0)) 0 9⟩ (by
  have V:(leI (tJ yE 0 p J 4) 100000000&&(leI (tJ yE 0 p J 6) 100000000&&leI (q 0) 100000000))=true:=by rw[U,O];exact h
  exact congrArg (fun b=>some ((⟨.one (.agg (OO yE)),sub (eo (tJ yE 0 p J) (q 0)) 0 9⟩:T),b)) V)
 have e:tJ yE 0 (sub (eo p (q 0)) 0 9) J=sub (eo (tJ yE 0 p J) (q 0)) 0 9:=by unfold eo;rw[U,O];simp only[yE,tJ,aL,aJ,dG,sub]
 rw[e];exact H
abbrev zx:=find [zJ]
abbrev yW:=[0,1,3,4,5]
theorem IJ(N:Nat)(p q:b8):aZ f4 zx N yW Tryz.f147 (.tup [.c (.own (0,0) true 41),.c (.d (.bool))]) [⟨sd (.sl 41),p⟩,⟨ag ay,q⟩]=some (bo,
 some (1,sub (sub (bX (p 0) (sub q 0 2) (.b false)) 0 2) 0 2)):=by kernel_rfl
def zA:Ent:=(147,e2 (sd (.sl 41)) (ag ay) fun p q=>(⟨.tup [.c (.own (0,0) true 41),.c (.d (.bool))],sub (bX (p 0) q (.b false)) 0 2⟩,true))
theorem IC:aw f4 zA:=bj fun p q h=>aq (N:=0) (ks:=yW) (ap (fC ⟨Du,fN⟩)) Tryz.func147 fun hw=>by rw[IJ];rfl
abbrev zm:=find [Be]
abbrev yH:=[0,1,3,4,5,6,7]
theorem Jv(N:Nat)(p q:b8):aZ f4 zm N yH Tryz.f148 (.tup [.c (.d (.sl 41)),.c (.d .bool)]) [⟨sd (.sl 41),p⟩,⟨ag ay,q⟩]=some (bo,
 some (1,sub (sub (bX (p 0) (sub q 0 2) (.b false)) 0 2) 0 2)):=by kernel_rfl
def qO:Ent:=(148,e2 (sd (.sl 41)) (ag ay) fun p q=>(⟨.tup [.c (.d (.sl 41)),.c (.d .bool)],sub (bX (p 0) q (.b false)) 0 2⟩,true))
theorem uR:aw f4 qO:=bj fun p q h=>aq (N:=0) (ks:=yH) (ap (fC ⟨Ef,fN⟩)) Tryz.func148 fun hw=>by rw[Jv];rfl
abbrev BN:=find [zQ,zP,Bv,gC,jn,zA,pu]
abbrev DX:=[0,1,2,3,5,6,7,8,9,10,11,16,24,38,56]
theorem ND(N:Nat)(p q r:b8):aZ f4 BN N DX Tryz.f41 (.tup [.agg d0,.c (.d si)]) [⟨ag aK,p⟩,⟨ri,q⟩,⟨ag ay,r⟩]=some (bo,
 nd (bE (sub p 0 9)) (bif (au (sub p 0 9) [q 0] (sub r 0 2)) != 0 then nd (cv (sub p 0 9)||(au (sub p 0 9) [q 0] (sub r 0 2))==1) (some (1,sub (sub (gt (sub p 0 9) (.i (au (sub p 0 9) [q 0] (sub r 0 2)))) 0 10) 0 10))
 else bif (q 0).int==(p 8).int then bif !(gm (p 2) (sub r 0 2)) then nd (cv (sub p 0 9)) (some (1,sub (dpS p) 0 9 ++ [.i 0]))
 else bif !(ca (p 2) (sub r 0 2)) then nd (cv (sub p 0 9)) (some (1,sub (dpS p) 0 9 ++ [.i 4]))
 else nd (cv (sub p 0 9)) (bif !(bX (p 2) (sub r 0 2) (.b false) 1).bool then some (1,sub (dpS p) 0 9 ++ [.i 6])
 else some (1,[dpS p 0,dpS p 1,bX (p 2) (sub r 0 2) (.b false) 0]++(sub (dpS p) 3 5 ++ [q 0,.i 0])))
 else bif !(ca (p 2) (sub r 0 2)) then nd (cv (sub p 0 9)) (some (1,sub (dpS p) 0 9 ++ [.i 4]))
 else nd (cv (sub p 0 9)) (bif !(bX (p 2) (sub r 0 2) (.b false) 1).bool then some (1,sub (dpS p) 0 9 ++ [.i 6])
 else some (1,[dpS p 0,dpS p 1,bX (p 2) (sub r 0 2) (.b false) 0]++(sub (dpS p) 3 5 ++ [q 0,.i 0]))))):=by kernel_rfl
def anE(p:b8)(q F:D):b8:= [p 0,.l (p 1).rows,F,.l (p 3).rows,.l (p 4).rows,dpS p 5,.l (p 6).rows,.l (p 7).rows,q]
def thI(p:b8)(q:D)(r:b8):b8:=
 bif (au (sub p 0 9) [q] (sub r 0 2)) != 0 then sub (gt (sub p 0 9) (.i (au (sub p 0 9) [q] (sub r 0 2)))) 0 10
 else bif (q.int==(p 8).int) && !(gm (p 2) (sub r 0 2)) then dpS p ++ [.i 0]
 else bif !(ca (p 2) (sub r 0 2)) then dpS p ++ [.i 4]
 else bif !(bX (p 2) (sub r 0 2) (.b false) 1).bool then dpS p ++ [.i 6]
 else anE p q (bX (p 2) (sub r 0 2) (.b false) 0) ++ [.i 0]
def Cg:Ent:=(41,e3 (ag aK) ri (ag ay) fun p q r=>(⟨.tup [.agg d0,.c (.d si)],sub (sub (thI p (q 0) r) 0 10) 0 10⟩,bE p))
theorem KJ:aw f4 Cg:=em fun p q r h=>aq (N:=0) (ks:=DX) (ap (fC ⟨BZ,fC ⟨CC,fC ⟨DA,fC ⟨gi,fC ⟨iH,fC ⟨IC,fC ⟨mC,fN⟩⟩⟩⟩⟩⟩⟩)) Tryz.func41 fun hw=>by
 rw[ND];have h:bE (sub p 0 9)=true:=h;refine congrArg (fun x=>some (bo,x)) ?_;show _=some (1,sub (sub (thI p (q 0) r) 0 10) 0 10);unfold thI;rw[h,aP];cases J:au (sub p 0 9) [q 0] (sub r 0 2) != 0 with
 | true=>rw[f8,f8,sb,aP];rfl
 | false =>
 obtain⟨hsh,O⟩:=KU J;rw[f5,f5,dB hsh];cases (q 0).int==(p 8).int <;> cases gm (p 2) (sub r 0 2) <;> cases ca (p 2) (sub r 0 2) <;> cases (bX (p 2) (sub r 0 2) (.b false) 1).bool <;> rfl
abbrev EF:=find [lS,uH,fQ,gC,Xs,yr,Te,Zr,ud,pu]
abbrev CL:=[0,1,2,3,5,6,7,8,9,10,23,27,38,44,54]
def iZ(p q r:b8):b8:=sub (OV (sub (dpS p) 0 9) (q 0) (sub r 0 2) (.i 1)) 0 11
theorem Lh(N:Nat)(p q r:b8):aZ f4 EF N CL Tryz.f37 (.tup [.agg d0,.c (.d (.sl 108)),.c (.d si)]) [⟨ag aK,p⟩,⟨ri,q⟩,⟨ag ay,r⟩]=some (bo,
 nd (bE (sub p 0 9)) (bif !(aY (sub p 0 9)) then some (1,[.i 0,.l [],.l [],.l [],.l [],.l [],.l [],.l [],.i 0,.l [],.i 1])
 else bif !(inB (q 0).int 1 60) then some (1,[.i 0,.l [],.l [],.l [],.l [],.l [],.l [],.l [],.i 0,.l [],.i 1])
 else bif !(ar (sub r 0 2)) then some (1,[.i 0,.l [],.l [],.l [],.l [],.l [],.l [],.l [],.i 0,.l [],.i 1])
 else nd (cv (sub p 0 9)) (bif aA (p 7) (q 0).int then some (1,sub (dpS p) 0 9 ++ [.l [],.i 2])
 else nd (leI (p 5) 1000000000) (bif aA (aB (p 5)) (q 0).int then some (1,sub (dpS p) 0 9 ++ [.l [],.i 2])
 else bif aA (p 6) (q 0).int then some (1,sub (dpS p) 0 9 ++ [.l [],.i 3])
 else bif !(qa (sub p 0 9) (sub r 0 2)) then some (1,sub (dpS p) 0 9 ++ [.l [],.i 4])
 else nd (iR (dpS p 6)&&(leI (dpS p 6) 10000&&leI (dpS p 5) 1000000000)) (bif (iZ p q r 10).int != 0 then nd (cv (sub p 0 9)) (some (1,sub (dpS p) 0 9 ++ [.l [],iZ p q r 10]))
 else some (1,sub (iZ p q r) 1 9 ++ [ma (iZ p q r 4) (sub r 0 2) (.b true),.i 0])))))):=by kernel_rfl
abbrev rdA(p:b8)(n:D)(r:b8):b8:=OV (dpS p) n (sub r 0 2) (.i 1)
def rdI(p:b8)(n:D)(r:b8):b8:=
 bif !(aY (sub p 0 9)) then dE ++ [.l [],.i 1] else bif !(inB n.int 1 60) then dE ++ [.l [],.i 1] else bif !(ar (sub r 0 2)) then dE ++ [.l [],.i 1]
 else bif aA (p 7) n.int then dpS p ++ [.l [],.i 2] else bif aA (aB (p 5)) n.int then dpS p ++ [.l [],.i 2]
 else bif aA (p 6) n.int then dpS p ++ [.l [],.i 3] else bif !(qa (sub p 0 9) (sub r 0 2)) then dpS p ++ [.l [],.i 4]
 else bif (rdA p n r 10).int != 0 then dpS p ++ [.l [],rdA p n r 10]
 else sub (rdA p n r) 1 9 ++ [ma (rdA p n r 4) (sub r 0 2) (.b true),.i 0]
def Dg:Ent:=(37,e3 (ag aK) ri (ag ay) fun p q r=>(⟨.tup [.agg d0,.c (.d (.sl 108)),.c (.d si)],sub (sub (rdI p (q 0) r) 0 11) 0 11⟩,bE p))
theorem NP:aw f4 Dg:=em fun p q r h=>aq (N:=0) (ks:=CL) (ap (fC ⟨lc,fC ⟨oE,fC ⟨eV,fC ⟨gi,fC ⟨Ap,fC ⟨ww,fC ⟨PW,fC ⟨Wz,fC ⟨xV,fC ⟨mC,fN⟩⟩⟩⟩⟩⟩⟩⟩⟩⟩)) Tryz.func37 fun hw=>by
 rw[Lh];have h:bE (sub p 0 9)=true:=h;refine congrArg (fun x=>some (bo,x)) ?_;show _=some (1,sub (sub (rdI p (q 0) r) 0 11) 0 11);unfold rdI;rw[h,aP];cases hsh:aY (sub p 0 9) with
 | false=>rfl
 | true =>
 have s:=(cQ _).1 hsh;obtain⟨_,Z,J,O,a0,_⟩:=cD hsh;have J:(p 5).rows.length<=60:=J;have O:(p 6).rows.length<=60:=O;have a1:(dpS p 5).rows.length<=60:=o8 (fX _ _ _) J;have e5:leI (dpS p 5) 1000000000=true:=bb (by omega);have V:leI (p 5) 1000000000=true:=bb (by omega);have Y:leI (dpS p 6) 10000=true:=bb (by show (p 6:Int)<=10000;omega);have U:iR (dpS p 6)=true:=ro s.w;rw[dB hsh,e5,V,Y,U];cases inB (q 0).int 1 60 <;> cases ar (sub r 0 2) <;> cases aA (p 7) (q 0).int <;> cases aA (aB (p 5)) (q 0).int <;> cases aA (p 6) (q 0).int <;> cases qa (sub p 0 9) (sub r 0 2) <;> first | rfl | skip
 simp only[l8,f5,aP,v6];have e:iZ p q r=sub (rdA p (q 0) r) 0 11:=rfl;rw[e];generalize rdA p (q 0) r=X;show (bif (X 10).int != 0 then _ else _)=_;cases (X 10).int != 0 <;> rfl
theorem SJ{z:D}(h:aV z=true){r:b8}(U:r∈z.rows):ar (sub r 0 2)=true:=by obtain⟨j,J,rfl⟩:=n9 U;rw[<- aU J];obtain⟨h1,O,V⟩:=mU h J;show (decide ((z j 0).int>=0)&&(decide ((z j 0).int<(z j 1).int)&&decide ((z j 1).int<=1000)))=true;simp only[a9,f7];exact⟨h1,O,V⟩
theorem QM{p:b8}(s:SOk (sub p 0 9)){a:b8}{wi:D}(h:iQ (p 2) a wi=true)(ha:wi.bool=true->ax (p 1) (sub a 0 2)=true) :
  aV (bX (p 2) a wi 0)=true/\∀r∈(bX (p 2) a wi 0).rows,ax (p 1) (sub r 0 2)=true:=by
 obtain⟨h1,h2⟩:=Sx h;have e:bX (p 2) a wi 0=.l (ng (p 2) a wi).rows:=by show D.l (bif iQ (p 2) a wi then _ else _)=_;rw[h];rfl
 have O:aV (p 1)=true:=s.own;rw[e];refine⟨h1,fun r Y=>(pM O (SJ h1 Y)).2 fun k Z k2=>?_⟩;rcases (h2 k).1 ⟨r,Y,Z,k2⟩ with⟨⟨U,V⟩,hw⟩ | ⟨_,x,J,U,V⟩
 ·have:=ha hw;have hq:ar (sub a 0 2)=true:=by unfold ax at this;rw[a9,a9] at this;exact this.2.1
  exact (pM O hq).1 this k U V
 ·have J:x∈(sub p 0 9 2).rows:=J;exact (pM O (SJ (z:=p 2) s.frz J)).1 (s.fr x J) k U V
def KL(p:b8)(l:D):Prop:=∀h,h∈ai (p 5)->l.rows.filter (fun r=>(r 0).int==h)=(p 4).rows.filter fun r=>(r 0).int==h
theorem KL.has{p:b8}{l:D}(I:KL p l){r:b8}(J:r∈(p 4).rows)(h:(r 0).int∈ai (p 5)):r∈l.rows:=by
 have:r∈l.rows.filter fun x=>(x 0).int==(r 0).int:=by rw[I _ h];exact t8.2 ⟨J,n8 _⟩
 exact (t8.1 this).1
theorem alK(p:b8):KL p (dpS p 4):=fun _ _=>rfl
structure Lft(p:b8)(q:D)(l:b8):Prop where
 ok:SOk (sub l 0 9)
 rk:l 8=p 8\/l 8=q
 kl:KL p (l 4)
theorem iE{p:b8}(s:SOk (sub p 0 9))(q:D)(c:b8):Lft p q (dpS p++c):=⟨gF s,.inl rfl,alK p⟩
theorem vS{p:b8}{q:D}{r:b8}(h:au (sub p 0 9) [q] (sub r 0 2)≠1):SOk (sub p 0 9)/\inB q.int 1 1000000=true/\ar (sub r 0 2)=true:=by unfold au at h;rw[show sub (sub p 0 9) 0 9=sub p 0 9 from rfl,show sub (sub r 0 2) 0 2=sub r 0 2 from rfl] at h;rw[<- cQ];have e:(gd [q] 0).int=q.int:=rfl;rw[e] at h;revert h;cases aY (sub p 0 9) <;> cases inB q.int 1 1000000 <;> cases ar (sub r 0 2) <;> intro h <;> first | exact absurd rfl h | exact⟨rfl,rfl,rfl⟩
theorem US{q:D}(h:inB q.int 1 1000000=true):inB q.int 0 1000000=true:=by simp only[inB,a9,f7] at h ⊢;omega
theorem aiE{p:b8}{q:D}{r:b8}(h:au (sub p 0 9) [q] (sub r 0 2)≠1)(c:b8):Lft p q (sub (gt (sub p 0 9) (.i (au (sub p 0 9) [q] (sub r 0 2)))) 0 9++c):=by obtain⟨s,_⟩:=vS h;unfold gt;rw[show ((D.i (au (sub p 0 9) [q] (sub r 0 2))).int==1)=false from v8.2 h,f5];exact iE s q c
theorem aar{p:b8}(s:SOk (sub p 0 9)){q F L W:D}(c:b8)(O:aV F=true/\∀r∈F.rows,ax (p 1) (sub r 0 2)=true)(Z:inB q.int 0 1000000=true)
  (hL:aR L=true) (hK:∀r∈L.rows,LOk (p 1) W (p 7) r) (hk:KL p L) (V:(ai W).Pairwise (· < ·)) (J:∀m∈ai W,m∈ai (p 6)\/((∃r∈(p 4).rows,(r 0).int=m)/\m ∉ ai (p 5))) :
  Lft p q ([p 0,.l (p 1).rows,F,.l (p 3).rows,L,dpS p 5,W,.l (p 7).rows,q]++c):=
 ⟨Tx s rfl O.1 O.2 hL hK (fun _ U Y=>hk.has U Y) V J Z,.inr rfl,hk⟩
theorem VN{p:b8}{q:D}{r:b8}(h:(thI p q r 9).int≠1):Lft p q (thI p q r):=by
 unfold thI at h ⊢;cases O:au (sub p 0 9) [q] (sub r 0 2) != 0 with
 | true =>
  rw[O,f8] at h;rw[f8];have h1:au (sub p 0 9) [q] (sub r 0 2)≠1:=fun e=>by rw[e] at h;exact h rfl
  obtain⟨s,_⟩:=vS h1;unfold gt;rw[show ((D.i (au (sub p 0 9) [q] (sub r 0 2))).int==1)=false from v8.2 h1,f5];exact iE s q [.i (au (sub p 0 9) [q] (sub r 0 2))]
 | false =>
  have h1:au (sub p 0 9) [q] (sub r 0 2)≠1:=fun e=>by rw[e] at O;cases O
  obtain⟨s,Y,ha⟩:=vS h1;rw[f5];cases (q.int==(p 8).int) && !(gm (p 2) (sub r 0 2)) with
  | true=>exact iE s q [.i 0]
  | false =>
  cases ca (p 2) (sub r 0 2) with
  | false=>exact iE s q [.i 4]
  | true =>
  cases Z:(bX (p 2) (sub r 0 2) (.b false) 1).bool with
  | false=>exact iE s q [.i 6]
  | true =>
   have U:∀r∈(p 4).rows,LOk (p 1) (.l (p 6).rows) (p 7) r:=fun r J=>⟨(s.lo r J).rg,(s.lo r J).nw,(s.lo r J).ne⟩
   exact aar s [.i 0] (QM s Z fun h=>by cases h) (US Y) (L:=.l (p 4).rows) (W:=.l (p 6).rows) s.lk U (fun _ _=>rfl) s.w fun m V=>.inl V
theorem UO{p:b8}{n:D}{r:b8}(s:SOk (sub p 0 9))(hn:inB n.int 1 60=true)(V:ar (sub r 0 2)=true)(h7:n.int ∉ ai (p 7))(h5:n.int ∉ ai (p 5))(h6:n.int ∉ ai (p 6))(hf:ax (p 1) (sub r 0 2)=true)
  (g2:(cd (.l (p 4).rows) (aB (p 5)) n (sub r 0 2) (.i 1) 2).int≠2) (g3:(cd (.l (p 4).rows) (aB (p 5)) n (sub r 0 2) (.i 1) 2).int≠3) {l:D} (el:l.rows.map nrm=(cd (.l (p 4).rows) (aB (p 5)) n (sub r 0 2) (.i 1) 0).rows.map nrm) :
  SOk [p 0,.l (p 1).rows,.l (p 2).rows,.l (p 3).rows,l,dpS p 5,gr (.l (p 6).rows) (cd (.l (p 4).rows) (aB (p 5)) n (sub r 0 2) (.i 1) 1) (cd (.l (p 4).rows) (aB (p 5)) n (sub r 0 2) (.i 1) 1).rows.length,.l (p 7).rows,p 8]/\KL p (cd (.l (p 4).rows) (aB (p 5)) n (sub r 0 2) (.i 1) 0):=by
 have hsh:=(cQ _).2 s;have I0:=LK.zero hsh n (fun x=>x=bD n (sub r 0 2) (.i 1));have a0:(aB (p 5)).rows.length<=60:=by
  have:=pf s.h fun r V=>(s.h1 r V).tx
  show ((p 5).rows.map fun r => [r 0]).length<=60;rw[m9];exact this
 have hR:bv [.l (p 4).rows] [aB (p 5)] [n] (sub (sub r 0 2) 0 2) [.i 1]=true:=by rw[kQ];have e1:aR (.l (p 4).rows)=true:=s.lk;rw[e1,bb (by omega),hn,show ar (sub (sub (sub r 0 2) 0 2) 0 2)=true from V];rfl
 have I:=(I0.ask hR (.inr rfl) (fun x e=>by rw[e];rfl) rfl h6 g2 g3).1;have U:∀x∈(p 4).rows,LOk (p 1) (p 6) (p 7) x:=s.lo;generalize cd (.l (p 4).rows) (aB (p 5)) n (sub r 0 2) (.i 1)=A at *;have hk:KL p (A 0):=fun h O=>by refine I.keep h (fun e=>h5 (e▸O)) ?_;rw[lY];exact gD.2 O
 refine⟨Tx s el s.frz (fun x J=>s.fr x J) ((qH el).trans I.lk) (fun x J=>?_) (fun x J Y=>hk.has J Y) I.w (fun m Y=>?_) s.rk,hk⟩
 ·obtain⟨h1,Z⟩:=I.l x J;rcases h1 with h1 | rfl
  ·exact⟨(U x h1).rg,Z,(U x h1).ne⟩
  ·exact⟨hf,Z,h7⟩
 ·rcases I.w1 m Y with h | ⟨h1,_,h3⟩
  ·exact .inl h
  ·refine .inr ⟨h1,fun O=>?_⟩;rw[lY] at h3;rw[gD.2 O] at h3;cases h3
theorem ahw{p:b8}{n:D}{r:b8}(h:(rdI p n r 10).int≠1):Lft p (p 8) (rdI p n r):=by
 unfold rdI at h ⊢;cases hsh:aY (sub p 0 9) with
 | false=>rw[hsh] at h;exact absurd rfl h
 | true =>
 cases hn:inB n.int 1 60 with
 | false=>rw[hsh,hn] at h;exact absurd rfl h
 | true =>
 cases V:ar (sub r 0 2) with
 | false=>rw[hsh,hn,V] at h;exact absurd rfl h
 | true =>
 have s:=(cQ _).1 hsh;simp only[l8,f5];cases h7:aA (p 7) n.int with
 | true=>exact iE s _ [.l [],.i 2]
 | false =>
 cases O:aA (aB (p 5)) n.int with
 | true=>exact iE s _ [.l [],.i 2]
 | false =>
 cases h6:aA (p 6) n.int with
 | true=>exact iE s _ [.l [],.i 3]
 | false =>
 cases U:qa (sub p 0 9) (sub r 0 2) with
 | false=>exact iE s _ [.l [],.i 4]
 | true =>
 simp only[l8,f5];cases J:(rdA p n r 10).int != 0 with
 | true=>exact iE s _ [.l [],rdA p n r 10]
 | false =>
 rw[f5];have e5:aB (dpS p 5)=aB (p 5):=BI p;have hA:um (dpS p) n (sub r 0 2) (.i 1)=cd (.l (p 4).rows) (aB (p 5)) n (sub r 0 2) (.i 1):=by unfold um;rw[e5];rfl
 have Z:ax (p 1) (sub r 0 2)=true:=by unfold qa at U;rw[a9] at U;have h1:aV (p 1)=true:=s.own;unfold ax;rw[h1,V];exact U.1
 have O:n.int ∉ ai (p 5):=fun hm=>by rw[lY,gD.2 hm] at O;cases O
 unfold rdA OV at J ⊢;rw[hA] at J ⊢;cases Y:(cd (.l (p 4).rows) (aB (p 5)) n (sub r 0 2) (.i 1) 2).int==2 with
 | true=>rw[Y] at J;cases J
 | false =>
 cases g3:(cd (.l (p 4).rows) (aB (p 5)) n (sub r 0 2) (.i 1) 2).int==3 with
 | true=>rw[Y,g3] at J;cases J
 | false =>
 obtain⟨a1,a2⟩:=UO s hn V (jC.1 h7) O (jC.1 h6) Z (v8.1 Y) (v8.1 g3) rfl;exact⟨a1,.inl rfl,a2⟩
theorem Rq(p:b8)(n z u:D):(prS p n z u 9).int=(prI p n z u 9).int/\((prI p n z u 9).int≠1->Lft p (p 8) (prI p n z u)/\SOk (sub (prS p n z u) 0 9)/\prS p n z u 8=p 8):=by
 have bad:∀ {x y:b8},x=dE ++ [.i 1]->y=dE ++ [.i 1]->(y 9).int=(x 9).int/\((x 9).int≠1->Lft p (p 8) x/\SOk (sub y 0 9)/\y 8=p 8):=fun e1 e2=>by rw[e1,e2];exact⟨rfl,fun h=>absurd rfl h⟩
 unfold prI prS tq;rw[XZ];cases hsh:aY (sub p 0 9) with
 | false=>exact bad rfl rfl
 | true =>
 have s:=(cQ _).1 hsh;have same:∀ {x y:b8} (c:b8),x=dpS p++c->y=dpS p++c->(y 9).int=(x 9).int/\((x 9).int≠1->Lft p (p 8) x/\SOk (sub y 0 9)/\y 8=p 8):=fun c e1 e2=>by rw[e1,e2];exact⟨rfl,fun _=>⟨iE s _ c,gF s,rfl⟩⟩
 cases hin:inB n.int 1 60 with
 | false=>exact bad rfl rfl
 | true =>
 cases hz:leI z 16 with
 | false =>rw[show ltI 16 z=true from by simp only[leI,y6] at hz;exact gJ (by omega)];exact bad rfl rfl
 | true =>
 rw[show ltI 16 z=false from by simp only[leI,f7] at hz;exact gh (by omega)];cases Y:tI z with
 | false =>cases aO u <;> exact bad rfl rfl
 | true =>
 cases hwo:aO u with
 | false=>exact bad rfl rfl
 | true =>
 simp only[v6,l8,f5];rw[lY];cases J:fV (p 5) n.int with
 | true =>obtain⟨h6,h7⟩:=aiu hsh J;rw[h7];exact same [.i 0] rfl rfl
 | false =>
 rw[f5];obtain⟨O,b1,b0,b2,a7,a8,a4,a2⟩:=cD hsh;have O:aR (p 4)=true:=O;have a3:∀k,k<z.rows.length->ar (sub (z k) 0 2)=true:=fun k hk=>by unfold tI at Y;exact i6.1 Y k (m0.2 hk)
 have U:ph p n z u=.i (bif aA (p 7) n.int then 2 else bif aA (p 6) n.int then 3 else bif !jT p n z then 7 else bif !kM p u then 4 else 0):=by rw[<- acT (p:=p) (tx:=n) (z:=z) O a3,<- adf (p:=p) (z:=u) a4 a2 (fun k hk=>aaF hwo hk)];rfl
 rw[U];cases h7:aA (p 7) n.int with
 | true=>exact same [.i 2] (Dm p n u (c:=2) (by decide)) rfl
 | false =>
 cases h6:aA (p 6) n.int with
 | true=>exact same [.i 3] (Dm p n u (c:=3) (by decide)) rfl
 | false =>
 cases jT p n z with
 | false=>exact same [.i 7] (Dm p n u (c:=7) (by decide)) rfl
 | true =>
 cases a5:kM p u with
 | false=>exact same [.i 4] (Dm p n u (c:=4) (by decide)) rfl
 | true =>
 simp only[l8,f5,f8];cases hf:(List.range u.rows.length).find? (fun k=>(gN p n u k).int != 0) with
 | some k =>
  obtain⟨hp,i,hi,e,a0⟩:=List.find?_eq_some_iff_getElem.1 hf;rw[H7] at hi;rw[L1] at e;subst e;have Z:∀j,j<i->(gN p n u j).int=0:=fun j hj=>by have:=a0 j hj;rw[L1] at this;simpa using this
  obtain⟨k1,k2⟩:=adp hsh hin hwo hi Z (by simpa using hp);refine same [.i (cG [gN p n u i])] ?_ rfl;unfold adI;rw[k1];rw[show ((D.i (cG [gN p n u i])).int==0)=false from v8.2 k2];rfl
 | none =>
  have Z:∀j,j<u.rows.length->(gN p n u j).int=0:=fun j hj=>by have:=List.find?_eq_none.1 hf j (m0.2 hj);simpa using this
  obtain⟨i1,i2,i3,_⟩:=NC hsh hin hwo u.rows.length (g8 _) Z;unfold adI ajJ;have I:=WH hsh hin hwo (jC.1 h6) u.rows.length (g8 _) i1;have V:=aja hsh u;rw[i2] at I;rw[i1,V,i2,aes hsh J];rw[show ((0:Int)==0)=true from rfl,f8];dsimp only;cases a6:Oo p u with
  | true=>exact same [.i 6] rfl rfl
  | false =>
   simp only[f5];generalize (bK p n u (.i 0) u.rows.length).1=L at *;generalize (cT p n u u.rows.length).1=l at *;generalize (cT p n u u.rows.length).2=W at *;have N:aml p n u L W:=⟨J,jC.1 h6,jC.1 h7,a5,V.trans a6,I.1,I.2⟩;have a:=alV hsh hin hwo N;have a1:n.int ∉ ai (p 5):=fun hm=>by rw[gD.2 hm] at J;cases J
   refine⟨rfl,fun _=>⟨⟨a,.inl rfl,fun h hh=>I.1.keep h (fun e=>a1 (e▸hh)) ?_⟩,agi i3.symm a,rfl⟩⟩;rw[lY];exact gD.2 hh
abbrev qY:=find [jr,mB,vw,pu]
abbrev rz:=[0,1,4,5,6,7,15,23,46,6000006]
def px(N:Nat)(p q:b8):b8->Out:=bc f4 qY N rz Tryz.f143 (.tup [.c (.d (.sl 108)),.c (.d .bool)]) [⟨sd (.sl 108),p⟩,⟨sd (.sl 70),q⟩] 0
theorem vM(N:Nat)(p q:b8)(V O x2 Z Y U J:D):(px N p q) [V,O,x2,Z,Y,U,J] =
 bif ltI J.int O then nd (al J.int O.rows.length) (nd (al J.int O.rows.length) (nd (al J.int O.rows.length) (nd (cl U) (nx [V,O,x2,Z,Y,prD (pT (prs U) (O.rows.getD J.int.toNat [] 0).int (O.rows.getD J.int.toNat [] 1).int (leI 0 (O.rows.getD J.int.toNat [] 1).int)),.i (w64 (J.int+1))]))))
 else ex 0 [V,O,x2,Z,Y,U,J]:=by kernel_rfl
theorem IU(N:Nat)(p q:b8):aZ f4 qY N rz Tryz.f143 (.tup [.c (.d (.sl 108)),.c (.d .bool)]) [⟨sd (.sl 108),p⟩,⟨sd (.sl 70),q⟩]=some (bo,
 bif !(aN (p 0)) then some (1,[.l [],.b false])
 else bif !(aO (q 0)) then some (1,[.l [],.b false])
 else nd (bq ([]++(p 0).rows)&&true) ((let J:=ba (px N p q) N [p 0,q 0,.l [],.i 0,.b (!(aO (q 0))),.l ([]++(p 0).rows),.i 0]
  nd J.isSome (nd (J.code==2) (bif ltI 60 (J.pay 5) then some (1,[.l [],.b false])
  else some (1,[J.pay 5,.b true])))))):=by kernel_rfl
def qM:Ent:=(143,e2 (sd (.sl 108)) (sd (.sl 70)) fun p q=>(⟨.tup [.c (.d (.sl 108)),.c (.d .bool)],[fh (p 0) (q 0),.b (nE (p 0) (q 0))]⟩,true))
theorem uU:aw f4 qM:=bj fun p q h=>aq (N:=62) (ks:=rz) (ap (fC ⟨iB,fC ⟨mm,fC ⟨yI,fC ⟨mC,fN⟩⟩⟩⟩)) Tryz.func143 fun hw=>by
 rw[IU];refine congrArg (fun x=>some (bo,x)) ?_;show _=some (1,[fh (p 0) (q 0),.b (nE (p 0) (q 0))]);unfold fh nE;cases h1:aN (p 0) with
 | false=>rfl
 | true =>
 cases J:aO (q 0) with
 | false=>rfl
 | true =>
 have O:cl (.l (p 0).rows)=true:=EX.2 (Rp h1);have U:=((dq _).1 h1).2.2;have hw:=HV J;have e:=bM (L:=px 62 p q) (fun k => [p 0,q 0,.l [],.i 0,.b (!true),wrD (.l (p 0).rows) (q 0) k,.i (k:Int)]) (q 0).rows.length 0 (fun k hk=>?_) ?_ (N:=62) (by omega)
 ·simp only[g9] at e;rw[show bq ([]++(p 0).rows)=true from bL (by show (p 0).rows.length<=_;omega)];simp only[l8,f5,v6,aP];rw[ue e]
  case e=>rfl
  simp only[nd,f8,f5,w7,Out.code,Out.pay,w3,aL,aJ,Nat.reduceBEq,Nat.reduceAdd,aE,gX,so,bp,l8,w5,n8,aP,s8];cases ltI 60 (wrD (.l (p 0).rows) (q 0) (q 0).rows.length) <;> rfl
 ·rw[vM];simp only[aE,cy hk,bn hk,g4,aF hk (by omega),Zf O J k (by omega),f8,aP];rfl
 ·rw[vM];simp only[aE,bF,f5]
abbrev Ax:=find []
theorem OI:av f4 Ax:=ap (fN)
abbrev Bl:=[0,1,4,5,6,11,19]
def xQ(N:Nat)(p q:b8):b8->Out:=bc f4 Ax N Bl Tryz.f145 (.one (.c (.d (.sl 3)))) [⟨sd (.sl 3),p⟩,⟨ri,q⟩] 0
theorem GZ(N:Nat)(p q:b8)(J U Y V O:D):(xQ N p q) [J,U,Y,V,O] =
 bif ltI O.int J then nd (al O.int J.rows.length) (bif (J.rows.getD O.int.toNat [] 0).int != U.int then nd (al O.int J.rows.length) (nd (bq (V.rows ++ [[J.rows.getD O.int.toNat [] 0]])&&true) (nx [J,U,Y,.l (V.rows ++ [[J.rows.getD O.int.toNat [] 0]]),.i (w64 (O.int+1))]))
 else nx [J,U,Y,V,.i (w64 (O.int+1))])
 else ex 0 [J,U,Y,V,O]:=by kernel_rfl
theorem Sg(N:Nat)(p q:b8):aZ f4 Ax N Bl Tryz.f145 (.one (.c (.d (.sl 3)))) [⟨sd (.sl 3),p⟩,⟨ri,q⟩]=some (bo,
 (let J:=ba (xQ N p q) N [p 0,q 0,.l [],.l [],.i 0]
  nd J.isSome (nd (J.code==2) (some (1,[J.pay 3]))))):=by kernel_rfl
def Qv(z:D)(n:Int):D:=.l (kpL (fun k=>(z.rows.getD k [] 0).int != n) (fun k => [z.rows.getD k [] 0]) z.rows.length)
def KN:Ent:=(145,e2 (sd (.sl 3)) ri fun p q=>(⟨.one (.c (.d (.sl 3))),[Qv (p 0) (q 0).int]⟩,leI (p 0) 1000000))
theorem Un:aw f4 KN:=bj fun p q h=>aq (N:=(p 0).rows.length+1) (ks:=Bl) OI Tryz.func145 fun hw=>by
 rw[Sg];have h:leI (p 0) 1000000=true:=h;have hn:(p 0:Int)<=1000000:=j9 h;have e:=bM (L:=xQ ((p 0).rows.length+1) p q) (fun k => [p 0,q 0,.l [],.l (kpL (fun k=>(p 0 k 0).int != (q 0).int) (fun k => [p 0 k 0]) k),.i (k:Int)]) (p 0).rows.length 0 (fun k hk=>?_) ?_ (N:=(p 0).rows.length+1) (by omega)
 ·simp only[g9] at e;rw[ue e]
  case e=>rfl
  rfl
 ·rw[GZ];have J:=fX (fun k=>(p 0 k 0).int != (q 0).int) (fun k => [p 0 k 0]) k;simp only[aE,bp,cy hk,bn hk,g4,aF hk (by omega),bL (show (kpL (fun k=>(p 0 k 0).int != (q 0).int) (fun k => [p 0 k 0]) k ++ [[p 0 k 0]]).length<=4294967296 by rw[i5];show _+1<=_;omega)];simp only[kpL];cases (p 0 k 0).int != (q 0).int <;> rfl
 ·rw[GZ];simp only[aE,bF,f5]
abbrev nA:=find [jE,mM,fF,lQ,qM,uq,KN,yt]
abbrev nB:=[0,1,2,3,6,7,8,9,10,11,19,26,33,44,49]
def lp(N:Nat)(p q r:b8):b8->Out:=bc f4 nA N nB Tryz.f40 (.tup [.agg d7,.c (.d si)]) [⟨ag aK,p⟩,⟨ri,q⟩,⟨rb,r⟩] 0
theorem sJ(N:Nat)(p q r:b8)(x0 x1 x2 x3 x4 x5 x6 x7 x8 x9 V a2 b4 c2 d1 a3 c9 Y O a1 a7 b6 U Z d2 b5 a8 c5 b2 c3 b0 a4 c0 b3 a6 b1 c7 c1 c4 a0 d4 d3 J c6 c8 a5:D):(lp N p q r) [x0,x1,x2,x3,x4,x5,x6,x7,x8,x9,V,a2,b4,c2,d1,a3,c9,Y,O,a1,a7,b6,U,Z,d2,b5,a8,c5,b2,c3,b0,a4,c0,b3,a6,b1,c7,c1,c4,a0,d4,d3,J,c6,c8,a5] =
 bif ltI O.int J then nd (al O.int J.rows.length) (bif (J.rows.getD O.int.toNat [] 0).int != x9.int then nd (bq (Y.rows ++ [sub (J.rows.getD O.int.toNat []) 0 2])&&true) (nx [x0,x1,x2,x3,x4,x5,x6,x7,x8,x9,V,a2,b4,c2,d1,a3,c9,.l (Y.rows ++ [sub (J.rows.getD O.int.toNat []) 0 2]),.i (w64 (O.int+1)),a1,a7,b6,U,Z,d2,b5,a8,c5,b2,c3,b0,a4,c0,b3,a6,b1,c7,c1,c4,a0,d4,d3,J,c6,c8,a5])
 else bif V.bool then nx [x0,x1,x2,x3,x4,x5,x6,x7,x8,x9,V,a2,b4,c2,d1,a3,c9,Y,.i (w64 (O.int+1)),a1,a7,b6,U,Z,d2,b5,a8,c5,b2,c3,b0,a4,c0,b3,a6,b1,c7,c1,c4,a0,fh U (J.rows.getD O.int.toNat [] 1),d3,J,c6,c8,a5]
 else nx [x0,x1,x2,x3,x4,x5,x6,x7,x8,x9,V,a2,b4,c2,d1,a3,c9,Y,.i (w64 (O.int+1)),a1,a7,b6,U,Z,d2,b5,a8,c5,b2,c3,b0,a4,c0,b3,a6,b1,c7,c1,c4,a0,d4,d3,J,c6,c8,a5])
 else ex 0 [x0,x1,x2,x3,x4,x5,x6,x7,x8,x9,V,a2,b4,c2,d1,a3,c9,Y,O,a1,a7,b6,U,Z,d2,b5,a8,c5,b2,c3,b0,a4,c0,b3,a6,b1,c7,c1,c4,a0,d4,d3,J,c6,c8,a5]:=by kernel_rfl
theorem DC(N:Nat)(p q r:b8):aZ f4 nA N nB Tryz.f40 (.tup [.agg d7,.c (.d si)]) [⟨ag aK,p⟩,⟨ri,q⟩,⟨rb,r⟩]=some (bo,
 bif !(aY (sub p 0 9)) then some (1,[.i 0,.l [],.l [],.l [],.l [],.l [],.l [],.l [],.i 0,.i 1])
 else bif !(inB (q 0).int 1 60) then some (1,[.i 0,.l [],.l [],.l [],.l [],.l [],.l [],.l [],.i 0,.i 1])
 else nd (cv (sub p 0 9)) (bif aA (p 7) (q 0).int then some (1,sub (dpS p) 0 9 ++ [.i 2])
 else (let J:=ba (lp N p q r) N (sub p 0 9++([q 0,r 0,.i 0,.i 0,.i 0,.b (!(inB (q 0).int 1 60)),.i 0,.b (aA (p 7) (q 0).int),.l [],.i 0]++(sub p 0 9++([.i 0,.l [],.l [],.l [],.l [],.l [],.l [],.l [],.i 0]++sub (dpS p) 0 9))))
  nd J.isSome (nd (J.code==2) (nd (leI (J.pay 23) 1000000000) (nd (leI (J.pay 25) 1000000) (nd (leI (J.pay 26) 1000000000) (some (1,sub J.pay 37 4 ++ [iX (J.pay 23) (J.pay 9).int false,J.pay 17,Qv (J.pay 25) (J.pay 9).int,bC (J.pay 26) (J.pay 9),J.pay 45,.i 0]))))))))):=by kernel_rfl
def Ja(p:b8)(n y:D):Nat->D
 | 0=>dpS p 3
 | k+1=>bif (((dH p).rows.getD k []) 0).int != n.int then Ja p n y k else bif y.bool then fh (p 3) (((dH p).rows.getD k []) 1) else Ja p n y k
def RQ(p:b8)(n y:D):b8:=
 bif !(aY (sub p 0 9)) then dE ++ [.i 1] else bif !(inB n.int 1 60) then dE ++ [.i 1]
 else bif aA (p 7) n.int then dpS p ++ [.i 2]
 else[dpS p 0,dpS p 1,dpS p 2,Ja p n y (dH p).rows.length,iX (p 4) n.int false,.l (kpL (fun k=>(((dH p).rows.getD k []) 0).int != n.int) (fun k=>sub ((dH p).rows.getD k []) 0 2) (dH p).rows.length),Qv (p 6) n.int,bC (p 7) n,dpS p 8,.i 0]
def nt:Ent:=(40,e3 (ag aK) ri rb fun p q r=>(⟨.tup [.agg d7,.c (.d si)],sub (sub (RQ p (q 0) (r 0)) 0 10) 0 10⟩,true))
theorem ED:aw f4 nt:=em fun p q r h=>aq (N:=62) (ks:=nB) (ap (fC ⟨iN,fC ⟨jo,fC ⟨eY,fC ⟨jJ,fC ⟨uU,fC ⟨tn,fC ⟨Un,fC ⟨xT,fN⟩⟩⟩⟩⟩⟩⟩⟩)) Tryz.func40 fun hw=>by
 rw[DC];refine congrArg (fun x=>some (bo,x)) ?_;show _=some (1,sub (sub (RQ p (q 0) (r 0)) 0 10) 0 10);unfold RQ;cases hsh:aY (sub p 0 9) with
 | false=>rfl
 | true =>
 cases hin:inB (q 0).int 1 60 with
 | false=>rfl
 | true =>
 cases h7:aA (p 7) (q 0).int with
 | true=>rw[dB hsh];rfl
 | false =>
 have s:=(cQ _).1 hsh;obtain⟨_,J,U,O,Y,_⟩:=cD hsh;have J:(p 4).rows.length<=40:=J;have O:(p 6).rows.length<=60:=O;have Z:(p 7).rows.length<=60:=pf (z:=sub p 0 9 7) s.e s.e1;have hl:(dH p).rows.length<=60:=o8 (fX _ _ _) U;have e:=bM (L:=lp 62 p q r) (fun k => [p 0,p 1,p 2,p 3,p 4,p 5,p 6,p 7,p 8,q 0,r 0,.i 0,.i 0,.i 0,.b (!true),.i 0,.b false,.l (kpL (fun k=>(dH p k 0).int != (q 0).int) (fun k=>sub (dH p k) 0 2) k),.i (k:Int),p 0,p 1,p 2,p 3,p 4,p 5,p 6,p 7,p 8,.i 0,.l [],.l [],.l [],.l [],.l [],.l [],.l [],.i 0,dpS p 0,dpS p 1,dpS p 2,Ja p (q 0) (r 0) k,dpS p 4,dH p,dpS p 6,dpS p 7,dpS p 8]) (dH p).rows.length 0 (fun k hk=>?_) ?_ (N:=62) (by omega)
 ·simp only[g9] at e;simp only[l8,f5,dB hsh,aP];rw[ue e]
  case e=>rfl
  simp only[nd,f8,f5,w7,Out.code,Out.pay,w3,aL,aJ,Nat.reduceBEq,Nat.reduceAdd,aE,gX,so,bp,l8,w5,n8,aP,bb (show (p 4:Int)<=1000000000 by omega),bb (show (p 6:Int)<=1000000 by omega),bb (show (p 7:Int)<=1000000000 by omega)];rfl
 ·rw[sJ];have V:=fX (fun k=>(dH p k 0).int != (q 0).int) (fun k=>sub (dH p k) 0 2) k;simp only[aE,bp,cy hk,bn hk,g4,aF hk (by omega),bL (show (kpL (fun k=>(dH p k 0).int != (q 0).int) (fun k=>sub (dH p k) 0 2) k ++ [sub (dH p k) 0 2]).length<=4294967296 by rw[i5];show _+1<=_;omega)];simp only[kpL,Ja];cases (dH p k 0).int != (q 0).int <;> cases (r 0).bool <;> rfl
 ·rw[sJ];simp only[aE,bF,f5]
theorem amu{x0 x1 x2 x3 Y Z W w U x8:D}(e:ai w=ai W)(s:SOk [x0,x1,x2,x3,Y,Z,W,U,x8]):SOk [x0,x1,x2,x3,Y,Z,w,U,x8]:=by
 have sw:(ai W).Pairwise (· < ·):=s.w;have a1:∀r∈W.rows,inB (r 0).int 1 60=true:=s.w1;have V:∀r∈Y.rows,LOk x1 W U r:=s.lo;have a0:∀m∈ai W,m ∉ ai U:=s.we;have O:∀r∈Z.rows,HOk Y W U r:=s.h1;refine⟨s.me,s.own,s.frz,s.st,s.lk,s.rk,?_,fun r J=>?_,s.e,s.e1,s.fr,s.ce,fun r J=>⟨(V r J).rg,?_,(V r J).ne⟩,fun m hm=>a0 m ?_,s.h,fun r J=>⟨(O r J).tx,(O r J).ws,(O r J).lk,?_,(O r J).ne⟩,s.sum⟩
 ·show (ai w).Pairwise (· < ·);rw[e];exact sw
 ·have hm:(r 0).int∈ai W:=e▸(cK _ _).2 ⟨r,J,rfl⟩;obtain⟨x,hx,h⟩:=(cK _ _).1 hm;rw[<- h];exact a1 x hx
 ·show _ ∉ ai w;rw[e];exact (V r J).nw
 ·rw[<- e];exact hm
 ·show _ ∉ ai w;rw[e];exact (O r J).nw
theorem agv(z n:D):∀k,fi (.l z.rows) n k=fi z n k
 | 0=>rfl
 | k+1=>by rw[fi,fi,agv z n k];rfl
theorem ady(z n:D):bC (.l z.rows) n=bC z n:=by unfold bC;rw[agv];rfl
theorem WZ{p:b8}{n C H:D}(hsh:aY (sub p 0 9)=true)(S:SOk (sub (Vc p n C H) 0 9)):SOk [dpS p 0,dpS p 1,dpS p 2,C,iX (p 4) n.int false,H,Qv (p 6) n.int,bC (p 7) n,dpS p 8]:=by
 have J:aR (.l (p 4).rows)=true:=((cQ _).1 hsh).lk;rw[<- ady (p 7) n];refine amu (W:=lH (dpS p 6) (.l [[.l [[n]]]])) ?_ (agi (L:=jg (dpS p 4) n) ?_ S)
 ·show ai (Qv (p 6) n.int)=ai (lH (.l (p 6).rows) (.l [[.l [[n]]]]));unfold Qv ai;rw[bp,wT,sm (p 6).rows (fun r=>(r 0).int != n.int) (fun r => [r 0]),A7];rfl
 ·rw[rR];show _=(jg (.l (p 4).rows) n).rows.map nrm;rw[uC J,F9];rfl
theorem aiU{p:b8}{r:b8}(h:r∈(dH p).rows):sub r 0 2=r:=by have h:r∈(dpS p 5).rows:=h;rw[fd] at h;obtain⟨x,_,rfl⟩:=y4.1 h;rfl
theorem alM(p:b8)(n:D):D.l (kpL (fun k=>(((dH p).rows.getD k []) 0).int != n.int) (fun k=>sub ((dH p).rows.getD k []) 0 2) (dH p).rows.length)=.l ((dH p).rows.filter fun r=>(r 0).int != n.int):=by
 rw[sm (dH p).rows (fun r=>(r 0).int != n.int) (fun r=>sub r 0 2)]
 congr 1
 have:((dH p).rows.filter fun r=>(r 0).int != n.int).map (fun r=>sub r 0 2)=((dH p).rows.filter fun r=>(r 0).int != n.int).map id:=B3 fun r J=>aiU (t8.1 J).1
 rw[this,List.map_id]
theorem TJ{p:b8}{n y:D}:∀k,(∀j,j<k->(((dH p).rows.getD j []) 0).int≠n.int)->Ja p n y k=dpS p 3
 | 0,_=>rfl
 | k+1,h=>by rw[Ja,D1.2 (h k (by omega)),f8,TJ k fun j J=>h j (by omega)]
theorem abd{p:b8}{n y:D}{K:Nat}(J:∀j,j<K->(((dH p).rows.getD j []) 0).int≠n.int)(h1:(((dH p).rows.getD K []) 0).int=n.int):∀d,(∀j,K<j->j<K+1+d->(((dH p).rows.getD j []) 0).int≠n.int)->Ja p n y (K+1+d)=bif y.bool then fh (p 3) (((dH p).rows.getD K []) 1) else dpS p 3
 | 0,_=>by rw[D4,Ja,show ((((dH p).rows.getD K []) 0).int != n.int)=false from by rw[h1];exact I1 _,f5,TJ K J]
 | d+1,h=>by rw[show K+1+(d+1)=(K+1+d)+1 from rfl,Ja,D1.2 (h _ (by omega) (by omega)),f8,abd J h1 d fun j O U=>h j O (by omega)]
theorem ZN{h:D}(hs:(ai h).Pairwise (· < ·)){k:Nat}(hk:k<h.rows.length){n:Int}(e:(gd (h.rows.getD k []) 0).int=n):(h.rows.filter fun r=>(gd r 0).int != n)=(mH h (k:Int)).rows:=by
 have J:=sP (f:=fun k=>(gd (h.rows.getD k []) 0).int) (ui.1 hs);have e1:h.rows=h.rows.take k++(h.rows.getD k []::h.rows.drop (k+1)):=by rw[aU hk,<- H4 hk,F4]
 have Y:(h.rows.take k).filter (fun r=>(gd r 0).int != n)=h.rows.take k:=B5.2 fun r O=>by obtain⟨j,U,rfl⟩:=n9 O;rw[s9] at U;rw[J8];have:=J k j (by omega) hk;rw[<- aU (show j<h.rows.length by omega),D1];omega
 have V:(h.rows.drop (k+1)).filter (fun r=>(gd r 0).int != n)=h.rows.drop (k+1):=B5.2 fun r O=>by obtain⟨j,U,rfl⟩:=n9 O;rw[t5] at U;rw[J9];have:=J (k+1+j) k (by omega) (by omega);rw[<- aU (show k+1+j<h.rows.length by omega),D1];omega
 have Z:((gd (h.rows.getD k []) 0).int != n)=false:=by rw[e];exact I1 _
 show _=h.rows.take (k:Int).toNat++h.rows.drop ((k:Int).toNat+1);rw[g4]
 conv=>lhs;rw[e1,C0,Y,List.filter_cons_of_neg (by rw[Z];exact J4),V]
theorem WI(p:b8)(n y:D):(gd (RQ p n y) 9).int=(gd (IF p n y) 9).int/\((gd (IF p n y) 9).int≠1->SOk (sub (IF p n y) 0 9)/\gd (IF p n y) 8=gd p 8 /\
  (∀h∈ai (gd p 5),h≠n.int->(gd (IF p n y) 4).rows.filter (fun r=>(gd r 0).int==h)=(gd p 4).rows.filter fun r=>(gd r 0).int==h)/\SOk (sub (RQ p n y) 0 9)/\gd (RQ p n y) 8=gd p 8):=by
 unfold IF RQ;cases hsh:aY (sub p 0 9) with
 | false=>exact⟨rfl,fun h=>absurd rfl h⟩
 | true =>
 cases hin:inB n.int 1 60 with
 | false=>exact⟨rfl,fun h=>absurd rfl h⟩
 | true =>
 have s:=(cQ _).1 hsh;cases h7:aA (gd p 7) n.int with
 | true=>exact⟨rfl,fun _=>⟨gF s,rfl,fun _ _ _=>rfl,gF s,rfl⟩⟩
 | false =>
 simp only[l8,f5];have hs:(ai (dH p)).Pairwise (· < ·):=by show (ai (gd (dpS p) 5)).Pairwise (· < ·);rw[mO];exact s.h
 have a2:aR (.l (gd p 4).rows)=true:=s.lk;have Z:∀h∈ai (gd p 5),h≠n.int->(jg (.l (gd p 4).rows) n).rows.filter (fun r=>(gd r 0).int==h)=(gd p 4).rows.filter fun r=>(gd r 0).int==h:=fun h _ a1=>by
  rw[uC a2,H0];refine D7 fun x _=>?_
  cases hx:(gd x 0).int==h with
  | false=>rfl
  | true =>rw[p6.1 hx,s8,m6];exact v8.2 a1
 rw[alM];by_cases hn:n.int∈ai (gd p 5)
 ·obtain⟨K,V,eN,U⟩:=aiK hn;have a0:=sP (f:=fun k=>(gd ((dH p).rows.getD k []) 0).int) (ui.1 hs);have c1:Ja p n y (dH p).rows.length=bif y.bool then fh (gd p 3) (gd ((dH p).rows.getD K []) 1) else gd (dpS p) 3:=by
   have:=abd (p:=p) (n:=n) (y:=y) (K:=K) (fun j Y=>by have:=a0 K j Y V;omega) U ((dH p).rows.length - (K+1)) fun j h1 h2=>by have:=a0 j K h1 (by omega);omega
   rwa [show K+1+((dH p).rows.length - (K+1))=(dH p).rows.length by omega] at this
  rw[eN,bb (show (0:Int)<=(K:Int) by omega),f8,c1,ZN hs V U,g4];have S:SOk (sub (Vc p n (bif y.bool then fh (gd (dpS p) 3) (gd ((dH p).rows.getD K []) 1) else gd (dpS p) 3) (mH (dH p) (K:Int))) 0 9):=by
   cases y.bool with
   | false=>exact agS hsh hin V U
   | true =>obtain⟨_,_,e,h⟩:=acP hsh hin V U;rw[f8,e];exact h
  exact⟨rfl,fun _=>⟨S,rfl,Z,WZ hsh S,rfl⟩⟩
 ·have O:∀r∈(dH p).rows,(gd r 0).int≠n.int:=fun r J e=>hn (by
   have:n.int∈ai (gd (dpS p) 5):=(cK _ _).2 ⟨r,J,e⟩
   rwa [mO] at this)
  have c1:Ja p n y (dH p).rows.length=gd (dpS p) 3:=TJ _ fun j Y=>by rw[aU Y];exact O _ (p9 Y)
  have c2:((dH p).rows.filter fun r=>(gd r 0).int != n.int)=(dH p).rows:=B5.2 fun r J=>D1.2 (O r J)
  rw[akf hn,f5,c1,c2];have S:SOk (sub (Vc p n (gd (dpS p) 3) (dH p)) 0 9):=Yx hsh hin s.st s.ce hs (fun r J=>⟨J,O r J⟩) (by show ((gd p 3).rows.length:Int)+ev (gd p 3) (dH p).rows<=60;exact SD hsh);exact⟨rfl,fun _=>⟨S,rfl,Z,WZ hsh S,rfl⟩⟩
abbrev za:=find [pP,il,fF,mD,fR,qO]
abbrev yJ:=[0,1,2,3,5,6,7,8,9,10,11,17,34,40,50]
theorem IA(N:Nat)(p q r:b8):aZ f4 za N yJ Tryz.f42 (.tup [.agg d7,.c (.d si)]) [⟨ag aK,p⟩,⟨ri,q⟩,⟨ag ay,r⟩]=some (bo,
 bif (au (sub p 0 9) [q 0] (sub r 0 2)) != 0 then nd (cv (sub p 0 9)||(au (sub p 0 9) [q 0] (sub r 0 2))==1) (some (1,sub (sub (cM (sub p 0 9) (au (sub p 0 9) [q 0] (sub r 0 2))) 0 9) 0 9 ++ [.i (au (sub p 0 9) [q 0] (sub r 0 2))]))
 else nd (cv (sub p 0 9)) (bif (q 0).int==(p 8).int then bif !(jv (p 2) (sub r 0 2)) then some (1,sub (dpS p) 0 9 ++ [.i 0])
 else bif !(ax (p 2) (sub r 0 2)) then some (1,sub (dpS p) 0 9 ++ [.i 4])
 else bif !(sub (bX (p 2) (sub r 0 2) (.b false)) 0 2 1).bool then some (1,sub (dpS p) 0 9 ++ [.i 6])
 else some (1,[dpS p 0,dpS p 1,sub (bX (p 2) (sub r 0 2) (.b false)) 0 2 0]++(sub (dpS p) 3 5 ++ [q 0,.i 0]))
 else bif !(ax (p 2) (sub r 0 2)) then some (1,sub (dpS p) 0 9 ++ [.i 4])
 else bif !(sub (bX (p 2) (sub r 0 2) (.b false)) 0 2 1).bool then some (1,sub (dpS p) 0 9 ++ [.i 6])
 else some (1,[dpS p 0,dpS p 1,sub (bX (p 2) (sub r 0 2) (.b false)) 0 2 0]++(sub (dpS p) 3 5 ++ [q 0,.i 0])))):=by kernel_rfl
def qZ:Ent:=(42,e3 (ag aK) ri (ag ay) fun p q r=>(⟨.tup [.agg d7,.c (.d si)],sub (sub (thI p (q 0) r) 0 10) 0 10⟩,true))
theorem IS:aw f4 qZ:=em fun p q r h=>aq (N:=0) (ks:=yJ) (ap (fC ⟨nV,fC ⟨iK,fC ⟨eY,fC ⟨mi,fC ⟨fB,fC ⟨uR,fN⟩⟩⟩⟩⟩⟩)) Tryz.func42 fun hw=>by
 rw[IA];refine congrArg (fun x=>some (bo,x)) ?_;show _=some (1,sub (sub (thI p (q 0) r) 0 10) 0 10);unfold thI;cases V:au (sub p 0 9) [q 0] (sub r 0 2) != 0 with
 | true =>
  rw[f8,f8,sb,aP];unfold gt cM;cases h1:au (sub p 0 9) [q 0] (sub r 0 2)==1
  ·rw[show ((D.i (au (sub p 0 9) [q 0] (sub r 0 2))).int==1)=false from h1];rfl
  ·rw[p6.1 h1];rfl
 | false =>
 obtain⟨hsh,J⟩:=KU V;have O:aV (p 2)=true:=((cQ _).1 hsh).frz;have e1:jv (p 2) (sub r 0 2)=gm (p 2) (sub r 0 2):=Kr O J;have e2:ax (p 2) (sub r 0 2)=ca (p 2) (sub r 0 2):=by unfold ax;rw[O,J,s8,s8]
 have U:sub (bX (p 2) (sub r 0 2) (.b false)) 0 2 1=bX (p 2) (sub r 0 2) (.b false) 1:=rfl;rw[f5,f5,dB hsh,e1,e2,U];cases (q 0).int==(p 8).int <;> cases gm (p 2) (sub r 0 2) <;> cases ca (p 2) (sub r 0 2) <;> cases (bX (p 2) (sub r 0 2) (.b false) 1).bool <;> rfl
abbrev yQ:=find [jE,mM,eI,fF,lQ,uB,AV,qT,AR,AU,ou,th]
abbrev zw:=[0,1,2,3,5,6,7,8,9,10,11,12,13,27,32,44,51,70]
def fe(p q r:b8):b8:=sub (dI (p 4) (aB (p 5)) (q 0) (sub r 0 2) (.i 1)) 0 3
def ge(p q r:b8):b8:=eo [dpS p 0,dpS p 1,dpS p 2,dpS p 3,fe p q r 0,dpS p 5,dpS p 6,dpS p 7,dpS p 8] (fe p q r 1)
def ia(N:Nat)(p q r:b8):List b8:= [[.i (cG [(fe p q r 2)])],[.l []],[.i (cG [(fe p q r 2)])],[.l []],[fe p q r 2],sub (dpS p) 0 9,p,q,r,[.i 0],[.i 0],[.i 0],[.l []],[.b (!(ar (sub r 0 2)))],[.i 0],[fe p q r 0],[fe p q r 1],[fe p q r 2],[.b ((fe p q r 2).int != 0)],sub p 0 9,[r 0,r 1],sub (dpS p) 0 9,sub (dpS p) 0 9]
theorem Je(N:Nat)(p q r:b8):aZ f4 yQ N zw Tryz.f38 (.tup [.agg d7,.c (.d (.sl 108)),.c (.d si)]) [⟨ag aK,p⟩,⟨ri,q⟩,⟨ag ay,r⟩]=some (bo,
 bif !(aY (sub p 0 9)) then some (1,[.i 0,.l [],.l [],.l [],.l [],.l [],.l [],.l [],.i 0,.l [],.i 1])
 else bif !(inB (q 0).int 1 60) then some (1,[.i 0,.l [],.l [],.l [],.l [],.l [],.l [],.l [],.i 0,.l [],.i 1])
 else bif !(ar (sub r 0 2)) then some (1,[.i 0,.l [],.l [],.l [],.l [],.l [],.l [],.l [],.i 0,.l [],.i 1])
 else nd (cv (sub p 0 9)) (bif aA (p 7) (q 0).int then some (1,sub (dpS p) 0 9 ++ [.l [],.i 2])
 else nd (leI (p 5) 1000000000) (bif fV (p 5) (q 0).int then some (1,sub (dpS p) 0 9 ++ [.l [],.i 2])
 else bif aA (p 6) (q 0).int then some (1,sub (dpS p) 0 9 ++ [.l [],.i 3])
 else bif !(pd (sub p 0 9) (sub r 0 2)) then some (1,sub (dpS p) 0 9 ++ [.l [],.i 4])
 else nd (leI (p 5) 1000000000) (bif (fe p q r 2).int != 0 then nd (ec (ia N p q r) (ia N p q r)) (nd (ec (ia N p q r) (ia N p q r)) (some (1,sub (dpS p) 0 9 ++ [.l [],.i (cG [(fe p q r 2)])])))
 else nd (leI (fe p q r 0) 100000000&&(leI (dpS p 6) 100000000&&leI (fe p q r 1) 100000000)) (nd (leI (p 3) 1000000000) (some (1,sub (sub (ge p q r) 0 9) 0 5 ++ [dpS p 5,sub (ge p q r) 0 9 6,sub (ge p q r) 0 9 7,sub (ge p q r) 0 9 8,fg (p 3) (sub r 0 2) true,.i 0]))))))):=by kernel_rfl
abbrev rdB(p:b8)(n:D)(r:b8):b8:=dI (p 4) (aB (p 5)) n (sub r 0 2) (.i 1)
abbrev rdW(p X:b8):b8:=eo [dpS p 0,dpS p 1,dpS p 2,dpS p 3,X 0,dpS p 5,dpS p 6,dpS p 7,dpS p 8] (X 1)
def rdS(p:b8)(n:D)(r:b8):b8:=
 bif !(aY (sub p 0 9)) then dE ++ [.l [],.i 1] else bif !(inB n.int 1 60) then dE ++ [.l [],.i 1] else bif !(ar (sub r 0 2)) then dE ++ [.l [],.i 1]
 else bif aA (p 7) n.int then dpS p ++ [.l [],.i 2] else bif fV (p 5) n.int then dpS p ++ [.l [],.i 2]
 else bif aA (p 6) n.int then dpS p ++ [.l [],.i 3] else bif !(pd (sub p 0 9) (sub r 0 2)) then dpS p ++ [.l [],.i 4]
 else bif (rdB p n r 2).int != 0 then dpS p ++ [.l [],.i (cG [rdB p n r 2])]
 else sub (rdW p (rdB p n r)) 0 5 ++ [dpS p 5,rdW p (rdB p n r) 6,rdW p (rdB p n r) 7,rdW p (rdB p n r) 8,fg (p 3) (sub r 0 2) true,.i 0]
def rt:Ent:=(38,e3 (ag aK) ri (ag ay) fun p q r=>(⟨.tup [.agg d7,.c (.d (.sl 108)),.c (.d si)],sub (sub (rdS p (q 0) r) 0 11) 0 11⟩,true))
theorem IL:aw f4 rt:=em fun p q r h=>aq (N:=0) (ks:=zw) (ap (fC ⟨iN,fC ⟨jo,fC ⟨dy,fC ⟨eY,fC ⟨jJ,fC ⟨tT,fC ⟨DV,fC ⟨uK,fC ⟨DG,fC ⟨DL,fC ⟨oY,fC ⟨xf,fN⟩⟩⟩⟩⟩⟩⟩⟩⟩⟩⟩⟩)) Tryz.func38 fun hw=>by
 rw[Je];refine congrArg (fun x=>some (bo,x)) ?_;show _=some (1,sub (sub (rdS p (q 0) r) 0 11) 0 11);unfold rdS;cases hsh:aY (sub p 0 9) with
 | false=>rfl
 | true =>
 have s:=(cQ _).1 hsh;obtain⟨_,J,U,O,a0,a4,_⟩:=cD hsh;have J:(p 4).rows.length<=40:=J;have U:(p 5).rows.length<=60:=U;have O:(p 6).rows.length<=60:=O;have a3:(p 3).rows.length<=60:=((dq _).1 s.st).2.2;have e5:leI (p 5) 1000000000=true:=bb (by omega);have e3:leI (p 3) 1000000000=true:=bb (by omega);have Y:leI (dpS p 6) 100000000=true:=bb (by show (p 6:Int)<=100000000;omega);have a1:(rdB p (q 0) r 0).rows.length<=41:=(Da (p 4) (aB (p 5)) (q 0) (sub r 0 2) (.i 1)).1;have a2:(rdB p (q 0) r 1).rows.length<=40:=(Da (p 4) (aB (p 5)) (q 0) (sub r 0 2) (.i 1)).2;rw[dB hsh,e5];cases inB (q 0).int 1 60 <;> cases ar (sub r 0 2) <;> cases aA (p 7) (q 0).int <;> cases fV (p 5) (q 0).int <;> cases aA (p 6) (q 0).int <;> cases pd (sub p 0 9) (sub r 0 2) <;> first | rfl | skip
 simp only[l8,f5,aP,di];have e:fe p q r=sub (rdB p (q 0) r) 0 3:=rfl;have V:leI (rdB p (q 0) r 0) 100000000=true:=bb (by omega);have Z:leI (rdB p (q 0) r 1) 100000000=true:=bb (by omega);have e':ge p q r=rdW p (rdB p (q 0) r):=by unfold ge;rw[e];rfl
 rw[e',e,e3,Y,show sub (rdB p (q 0) r) 0 3 0=rdB p (q 0) r 0 from rfl,show sub (rdB p (q 0) r) 0 3 1=rdB p (q 0) r 1 from rfl,show sub (rdB p (q 0) r) 0 3 2=rdB p (q 0) r 2 from rfl,V,Z];generalize rdB p (q 0) r=X;generalize rdW p X=W;cases (X 2).int != 0 <;> rfl
theorem Rx(p:b8)(n:D)(r:b8):(rdS p n r 10).int=(rdI p n r 10).int/\((rdI p n r 10).int≠1->SOk (sub (rdS p n r) 0 9)/\rdS p n r 8=p 8):=by
 unfold rdS rdI;cases hsh:aY (sub p 0 9) with
 | false=>exact⟨rfl,fun h=>absurd rfl h⟩
 | true =>
 cases hn:inB n.int 1 60 with
 | false=>exact⟨rfl,fun h=>absurd rfl h⟩
 | true =>
 cases V:ar (sub r 0 2) with
 | false=>exact⟨rfl,fun h=>absurd rfl h⟩
 | true =>
 have s:=(cQ _).1 hsh;have J:∀ {c d:D},c=d->((dpS p ++ [.l [],c]) 10).int=((dpS p ++ [.l [],d]) 10).int/\(((dpS p ++ [.l [],d]) 10).int≠1->SOk (sub (dpS p ++ [.l [],c]) 0 9)/\(dpS p ++ [.l [],c]) 8=p 8):=fun e=>⟨by rw[e],fun _=>⟨gF s,rfl⟩⟩
 have h1:aV (sub p 0 9 1)=true:=s.own;have h2:aV (sub p 0 9 2)=true:=s.frz;rw[RD h1 h2 V,lY];simp only[l8,f5];cases h7:aA (p 7) n.int with
 | true=>exact J rfl
 | false =>
 cases Y:fV (p 5) n.int with
 | true=>exact J rfl
 | false =>
 cases h6:aA (p 6) n.int with
 | true=>exact J rfl
 | false =>
 cases Z:qa (sub p 0 9) (sub r 0 2) with
 | false=>exact J rfl
 | true =>
 simp only[l8,f5];have a1:ax (p 1) (sub r 0 2)=true:=by unfold qa at Z;rw[a9] at Z;have h1:aV (p 1)=true:=h1;unfold ax;rw[h1,V];exact Z.1
 have Y:n.int ∉ ai (p 5):=fun hm=>by rw[gD.2 hm] at Y;cases Y
 have a4:(aB (p 5)).rows.length<=60:=by
  have:=pf s.h fun r V=>(s.h1 r V).tx
  show ((p 5).rows.map fun r => [r 0]).length<=60;rw[m9];exact this
 have a2:aR (p 4)=true:=s.lk;have hR:bv [p 4] [aB (p 5)] [n] (sub (sub r 0 2) 0 2) [.i 1]=true:=by rw[kQ,a2,bb (by omega),hn,show ar (sub (sub (sub r 0 2) 0 2) 0 2)=true from V];rfl
 have hA:um (dpS p) n (sub r 0 2) (.i 1)=cd (.l (p 4).rows) (aB (p 5)) n (sub r 0 2) (.i 1):=by unfold um;rw[BI];rfl
 obtain⟨b0,b1,b2⟩:=Na hR (.inr rfl);obtain⟨t0,t1,t2⟩:=Tm (l:=p 4) (l':=.l (p 4).rows) rfl (aB (p 5)) n (sub r 0 2) (.i 1);have a0:=Xj (.l (p 4).rows) (aB (p 5)) n (sub r 0 2) (.i 1);have a3:=fun O U l el=>UO s hn V (jC.1 h7) Y (jC.1 h6) a1 O U (l:=l) el
 unfold rdA OV;rw[hA];unfold rdB;rw[b0,t0];generalize hX:dI (p 4) (aB (p 5)) n (sub r 0 2) (.i 1)=X at *;generalize cd (p 4) (aB (p 5)) n (sub r 0 2) (.i 1)=B at *;generalize cd (.l (p 4).rows) (aB (p 5)) n (sub r 0 2) (.i 1)=A at *;cases O:(A 2).int==2 with
 | true =>rw[p6] at O;rw[show ((A 2).int != 0)=true from by rw[O];rfl,f8];refine J (congrArg D.i ?_);unfold cG;rw[show (gd [A 2] 0).int=2 from O];rfl
 | false =>
 cases U:(A 2).int==3 with
 | true =>rw[p6] at U;rw[show ((A 2).int != 0)=true from by rw[U];rfl,f8];refine J (congrArg D.i ?_);unfold cG;rw[show (gd [A 2] 0).int=3 from U];rfl
 | false =>
 cases g0:(A 2).int != 0 with
 | true =>refine⟨?_,fun _=>⟨gF s,rfl⟩⟩;show cG [A 2]=0;unfold cG;rw[show ((gd [A 2] 0).int==2)=false from O,show ((gd [A 2] 0).int==3)=false from U];rfl
 | false =>
  refine⟨rfl,fun _=>⟨?_,rfl⟩⟩;have eX:(X 0).rows.map nrm=(A 0).rows.map nrm:=b2.trans t2;obtain⟨w1,w2⟩:=Fr (X 0) (.l (p 6).rows) (X 1) (X 1).rows.length;rw[b1,t1] at w1 w2;have ew:(fp (X 0) (.l (p 6).rows) (A 1) (A 1).rows.length).1.rows.map nrm=(A 0).rows.map nrm:=by rw[w1,Od (abr eX a0),eX]
  have:=(a3 (v8.1 O) (v8.1 U) _ ew).1;rw[<- w2] at this;rw[f5,<- t1,<- b1] at *;exact this
theorem aab{p:b8}(h:SOk (sub p 0 9)){O F C R:D}(hO:aV O=true)(hF:aV F=true)(V:∀r∈F.rows,ax O (sub r 0 2)=true)(Y:aN C=true)(U:∀r∈C.rows,ax O (dX r)=true)
  (Z:∀r∈(p 4).rows,ax O [r 1,r 2]=true) (hs:(C:Int)+ev C (dpS p 5).rows<=60) (hR:inB R.int 0 1000000=true) :
  SOk [p 0,O,F,C,.l (p 4).rows,dpS p 5,.l (p 6).rows,.l (p 7).rows,R]:=
 have s:=gF h
 ⟨s.me,hO,hF,Y,s.lk,hR,s.w,s.w1,s.e,s.e1,V,U,fun r J=>⟨Z r J,(s.lo r J).nw,(s.lo r J).ne⟩,s.we,s.h,s.h1,hs⟩
theorem akq{z:D}{q:b8}(h:ax z q=true):aV z=true/\ar q=true:=by unfold ax at h;rw[a9,a9] at h;exact⟨h.1,h.2.1⟩
theorem LG{z:D}{a:b8}{wi:D}(h:iQ z a wi=true){q:b8}(V:ax z q=true)(hn:wi.bool=false->∀k,(q 0).int<=k->k<(q 1).int->¬((a 0).int<=k/\k<(a 1).int)):ax (bX z a wi 0) q=true:=by
 obtain⟨h1,Z⟩:=Sx h;obtain⟨hz,Y⟩:=akq V;have e:bX z a wi 0=.l (ng z a wi).rows:=by show D.l (bif iQ z a wi then _ else _)=_;rw[h];rfl
 rw[e];refine (pM h1 Y).2 fun k O U=>(Z k).2 ?_
 have hk:=(pM hz Y).1 V k O U;by_cases J:(a 0).int<=k/\k<(a 1).int
 ·cases hw:wi.bool with
  | true=>exact .inl ⟨J,rfl⟩
  | false=>exact absurd J (hn hw k O U)
 ·exact .inr ⟨J,hk⟩
theorem Dh{z:D}{a:b8}{wi:D}(h:iQ z a wi=true):aV (bX z a wi 0)=true:=by have:=(Sx h).1;show aV (D.l (bif iQ z a wi then _ else _))=true;rw[h];exact this
theorem SM{z O w:D}(hz:aN z=true)(J:aN O=true)(h:aO w=true->∀r∈w.rows,Fo (prs z) (gd r 0).int=Fo (prs O) (gd r 0).int):bi z w=bi O w:=by
 unfold bi;rw[hz,J];cases hw:aO w with
 | false=>rfl
 | true =>
  rw[f8,f8,f8]
  congr 1
  refine EZ _ fun j U=>?_
  unfold ki;rw[BS hz,BS J];unfold ajB;rw[h hw _ (by rw[aU U];exact p9 U:w.rows.getD j []∈w.rows)]
theorem JJ{z:D}{a:b8}(hz:aN z=true)(U:ar (sub a 0 2)=true):prs (fg z a false)=(prs z).filter fun m => !(decide ((a 0).int<=m.1)&&decide (m.1<(a 1).int)):=by
 have J:=U;simp only[ar,a9,f7] at J;obtain⟨O,V,Y⟩:=J;have O:(a 0).int>=0:=O;have V:(a 0).int<(a 1).int:=V;have Y:(a 1).int<=1000:=Y;unfold fg prs;rw[hz,U,bp];simp only[v6,f8];rw[sm z.rows (fun r=>inB (r 0).int (a 0).int (w64 ((a 1).int - 1))==false) (fun r=>sub r 0 2),A7,F9];have e:(pr ∘ fun r=>sub r 0 2)=pr:=rfl;rw[e]
 congr 1
 refine D7 fun r _=>?_
 rw[br (by omega) (by omega)];show (inB (r 0).int (a 0).int ((a 1).int - 1)==false) = !(decide ((a 0).int<=(r 0).int)&&decide ((r 0).int<(a 1).int));unfold inB;rw[p7];simp;omega
theorem ajd{z:D}{a:b8}(hz:aN z=true)(Y:ar (sub a 0 2)=true):aN (fg z a false)=true:=by have O:=JJ hz Y;obtain⟨h1,U,Z⟩:=(dq z).1 hz;have J:(fg z a false).rows.length=(prs (fg z a false)).length:=(m9 ..).symm;rw[dq];rw[O] at J ⊢;refine⟨fun m V=>h1 m (t8.1 V).1,U.filter _,?_⟩;rw[J];have:(prs z).length=z.rows.length:=m9 ..;have:=H2 (fun m:Int × Int => !(decide ((a 0).int<=m.1)&&decide (m.1<(a 1).int))) (prs z);omega
theorem ajU{z:D}{a:b8}(hz:aN z=true)(V:ar (sub a 0 2)=true){r:b8}(O:r∈(fg z a false).rows):(∃x∈z.rows,(x 0).int=(r 0).int)/\¬((a 0).int<=(r 0).int/\(r 0).int<(a 1).int):=by have:pr r∈prs (fg z a false):=y4.2 ⟨r,O,rfl⟩;rw[JJ hz V,t8] at this;obtain⟨h1,J⟩:=this;obtain⟨x,U,e⟩:=y4.1 h1;refine⟨⟨x,U,congrArg Prod.fst e⟩,fun h=>?_⟩;have J:(!(decide ((a 0).int<=(r 0).int)&&decide ((r 0).int<(a 1).int)))=true:=J;rw[w8 h.1,w8 h.2] at J;cases J
theorem aic{z:D}{a:b8}{wi:D}(h:iQ z a wi=true)(k:Int):inZ (bX z a wi 0) k↔(((a 0).int<=k/\k<(a 1).int)/\wi.bool=true)\/(¬((a 0).int<=k/\k<(a 1).int)/\inZ z k):=by
 have e:bX z a wi 0=.l (ng z a wi).rows:=by show D.l (bif iQ z a wi then _ else _)=_;rw[h];rfl
 rw[e];exact (Sx h).2 k
theorem ajq{r:b8}(h:inB (r 0).int 0 999=true){k:Int}(h1:(dX r 0).int<=k)(J:k<(dX r 1).int):k=(r 0).int:=by have e:=wC h;have h1:(r 0).int<=k:=h1;omega
theorem alq{p:b8}(s:SOk (sub p 0 9)){q:D}{a:b8}(U:iQ (p 1) a (.b true)=true)(V:inB q.int 0 1000000=true) :
  SOk [p 0,bX (p 1) a (.b true) 0,.l (p 2).rows,.l (p 3).rows,.l (p 4).rows,dpS p 5,.l (p 6).rows,.l (p 7).rows,q]:=
 have O:∀ {x:b8},ax (p 1) x=true->ax (bX (p 1) a (.b true) 0) x=true:=fun h=>LG U h fun h=>by cases h
 aab s (Dh U) s.frz (fun r J=>O (s.fr r J)) s.st (fun r J=>O (s.ce r J)) (fun r J=>O (s.lo r J).rg) (gF s).sum V
theorem ajp{p:b8}(s:SOk (sub p 0 9)){q:D}{a:b8}(O:iQ (p 1) a (.b false)=true)(hF:iQ (p 2) a (.b false)=true)(Z:ar (sub a 0 2)=true)(hl:∀r∈(p 4).rows,cz [r 1,r 2] [a 0,a 1]=false)(hq:inB q.int 0 1000000=true) :
  SOk [p 0,bX (p 1) a (.b false) 0,bX (p 2) a (.b false) 0,fg (p 3) a false,.l (p 4).rows,dpS p 5,.l (p 6).rows,.l (p 7).rows,q]:=by
 have st:aN (p 3)=true:=s.st;have s3:∀r∈(p 3).rows,ax (p 1) (dX r)=true:=s.ce;have s4:∀r∈(p 4).rows,LOk (p 1) (p 6) (p 7) r:=s.lo;have s2:∀r∈(p 2).rows,ax (p 1) (sub r 0 2)=true:=s.fr;have U:=ajd st Z;have a0:∀r∈(p 4).rows,∀k,(r 1).int<=k->k<(r 2).int->¬((a 0).int<=k/\k<(a 1).int):=fun r J k k1 Y ⟨k3,k4⟩=>by have:=hl r J;unfold cz at this;have t1:ltI (gd [r 1,r 2] 0).int (gd [a 0,a 1] 1).int=true:=gJ (by show (r 1).int<(a 1).int;omega);have t2:ltI (gd [a 0,a 1] 0).int (gd [r 1,r 2] 1).int=true:=gJ (by show (a 0).int<(r 2).int;omega);rw[t1,t2] at this;cases this
 have a1:∀r∈(fg (p 3) a false).rows,inB (r 0).int 0 999=true:=fun r J=>by have:=((dq _).1 U).1 (pr r) (y4.2 ⟨r,J,rfl⟩);show (decide (0<=(r 0).int)&&decide ((r 0).int<=999))=true;have h:0<=(r 0).int/\(r 0).int<=999:=this.1;rw[w8 h.1,w8 h.2];rfl
 refine aab s (Dh O) (Dh hF) (fun r J=>?_) U (fun r J=>?_) (fun r J=>LG O (s4 r J).rg fun _=>a0 r J) ?_ hq
 ·refine (pM (Dh O) (SJ (Dh hF) J)).2 fun k k1 Y=>(aic O k).2 ?_
  rcases (aic hF k).1 ⟨r,J,k1,Y⟩ with⟨_,h⟩ | ⟨h,x,V,k3,k4⟩
  ·cases h
  ·obtain⟨z1,z2⟩:=akq (s2 x V);exact .inr ⟨h,(pM z1 z2).1 (s2 x V) k k3 k4⟩
 ·obtain⟨⟨x,V,e⟩,hn⟩:=ajU st Z J;refine LG O (LZ (s3 x V) e) fun _ k k1 Y=>?_
  rw[ajq (a1 r J) k1 Y];exact hn
 ·have a3:(fg (p 3) a false).rows.length<=(p 3).rows.length:=by have h1:(prs (fg (p 3) a false)).length=(fg (p 3) a false).rows.length:=m9 ..;have h2:(prs (p 3)).length=(p 3).rows.length:=m9 ..;rw[JJ st Z] at h1;have:=H2 (fun m:Int × Int => !(decide ((a 0).int<=m.1)&&decide (m.1<(a 1).int))) (prs (p 3));omega
  have hn:ev (fg (p 3) a false) (dpS p 5).rows=ev (p 3) (dpS p 5).rows:=NK fun r J=>SM U st fun hw v hv=>by
   have H:HOk (.l (p 4).rows) (.l (p 6).rows) (.l (p 7).rows) r:=(gF s).h1 r J;have kv:=(((pt _).1 hw).2.1 v hv).1;obtain⟨y,hy,h2⟩:=dS.1 (H.lk v hv);obtain⟨_,b1,b2,_⟩:=JD h2;have b1:(y 1).int<=(v 0).int:=b1;rw[wC kv] at b2;have a2:=a0 y hy (v 0).int b1 (by omega);rw[JJ st Z,p7,mP,mP];constructor
   ·rintro⟨m,hm,e⟩;exact⟨m,(t8.1 hm).1,e⟩
   ·rintro⟨m,hm,e⟩;refine⟨m,t8.2 ⟨hm,?_⟩,e⟩;rw[e];cases h5:decide ((a 0).int<=(v 0).int)&&decide ((v 0).int<(a 1).int) with
    | false=>rfl
    | true =>rw[a9] at h5;exact absurd ⟨j9 h5.1,j9 h5.2⟩ a2
  rw[hn];have hs:(p 3:Int)+ev (p 3) (dpS p 5).rows<=60:=SD ((cQ _).2 s);omega
def GG(P:Nat->b8->Prop)(o:Out):Prop:=∃c l,o=some (c,l)/\P c l
theorem gnd{P:Nat->b8->Prop}{c:Bool}{t:Out}(J:c=true)(h:GG P t):GG P (nd c t):=by rw[J,aP];exact h
theorem ans{P:Nat->b8->Prop}{n:Nat}{c:Bool}{t:Out}(J:c=true)(h:GG P t):GG P (ndN n c t):=by rw[J,kg];exact h
theorem ch{P:Nat->b8->Prop}{c:Bool}{t u:Out}(h1:c=true->GG P t)(J:c=false->GG P u):GG P (bif c then t else u):=by
 cases c with
 | true=>exact h1 rfl
 | false=>exact J rfl
theorem cu{P:Nat->b8->Prop}{c:Nat}{l:b8}(h:P c l):GG P (some (c,l)):=⟨c,l,rfl,h⟩
theorem git{P:Nat->b8->Prop}{o:Out}{K:Out->Out}{c:Nat}(X:b8->Prop)(e:GG (fun J l=>J=c/\X l) o)(h:∀l,X l->GG P (K (some (c,l)))):GG P (nd o.isSome (nd (o.code==c) (K o))):=by obtain⟨J,l,rfl,rfl,O⟩:=e;have:(Out.code (some (J,l))==J)=true:=n8 _;rw[this];exact h l O
theorem gjn{P:Nat->b8->Prop}{o:Out}{K:Out->Out}(X:b8->Prop)(e:GG (fun c l=>c=0/\X l) o)(h:∀l,X l->GG P (K (some (0,l)))):GG P (nd o.isSome (K o)):=by obtain⟨O,l,rfl,rfl,J⟩:=e;exact h l J
theorem grd{P:Nat->b8->Prop}{L:b8->Out}{s s':b8}(hs:s=s')(h:GG P (L s')):GG P (L s):=by rw[hs];exact h
theorem geq{P:Nat->b8->Prop}{o o':Out}(e:o=o')(h:GG P o'):GG P o:=by rw[e];exact h
theorem io{o:Out}{n:Nat}{G:b8->Prop}(h:GG (fun c l=>c=1/\l=sub l 0 n/\G l) o):o=some (1,sub o.pay 0 n)/\G (sub o.pay 0 n):=by obtain⟨c,l,rfl,rfl,e,J⟩:=h;refine⟨congrArg (fun x=>some (1,x)) e,?_⟩;show G (sub l 0 n);rw[<- e];exact J
theorem tO{L:b8->Out}{Q:Nat->b8->Prop}(I:Nat->b8->Prop)(n:Nat)(h:∀k s,I k s->GG (fun c l=>(c=0/\k<n/\I (k+1) l)\/(c≠0/\Q c l)) (L s)) :
  ∀(N k:Nat) (st:b8),I k st->n<N+k->k<=n->GG Q (ba L N st)
 | 0,k,st,_,hN,hk=>by omega
 | N+1,k,st,h0,hN,hk=>by
  obtain⟨c,l,e,J⟩:=h k st h0;rcases J with⟨rfl,O,hI⟩ | ⟨J,hq⟩
  ·rw[qk e];exact tO I n h N (k+1) l hI (by omega) (by omega)
  ·obtain⟨c,rfl⟩:∃d,c=d+1:=⟨c - 1,by omega⟩;rw[kN e];exact⟨_,_,rfl,hq⟩
theorem yU{a b:Bool}(h1:a=true)(J:b=true):(a&&b)=true:=by rw[h1,J];rfl
theorem JQ{l:List b8}{r:b8}(h:l.length<4294967296):(bq (l ++ [r])&&true)=true:=by rw[D2];exact bL (by rw[i5,D3];omega)
theorem Wd(x:D)(l:b8):∀n o,sub (x::l) (o+1) n=sub l o n
 | 0,_=>rfl
 | n+1,o=>by rw[sub,sub,Wd x l n (o+1)];rfl
theorem aX:∀l:b8,l=sub l 0 l.length
 | []=>rfl
 | x::l=>by have J:=aX l;show x::l=(x::l) 0::sub (x::l) (0+1) l.length;rw[Wd,<- J];rfl
theorem anD(X:b8):sub X 0 1 = [sub X 0 1 0]:=rfl
def aeW(z:D):Bool:=ltI 0 z
theorem Um(r:b8)(l:List b8):aeW (.l (r::l))=true:=gJ (by rw[bp,C2];omega)
def be(a b:D):Bool:=leI 0 b.int&&leI a 1048576
theorem NT{a b:D}:be a b=true↔0<=b.int/\a.rows.length<=1048576:=by unfold be;simp only[a9,leI,f7];omega
theorem als(x:Int)(m:Nat)(U:m<=1073741823):0<=Gl .and .i64 x m/\Gl .and .i64 x m<=m:=by
 have h1:(BitVec.ofInt 64 x &&& BitVec.ofInt 64 (m:Int)).toNat<=m:=by
  rw[BitVec.toNat_and];have J:(BitVec.ofInt 64 (m:Int)).toNat=m:=by rw[BitVec.toNat_ofInt];omega
  rw[J];exact Nat.and_le_right
 have O:Gl .and .i64 x m=w64 ((BitVec.ofInt 64 x &&& BitVec.ofInt 64 (m:Int)).toNat:Int):=rfl;rw[O];generalize (BitVec.ofInt 64 x &&& BitVec.ofInt 64 (m:Int)).toNat=r at h1;rw[br (by omega) (by omega)];omega
theorem akF(x:Int):0<=Gl .and .i64 x 255/\Gl .and .i64 x 255<=255:=als x 255 (by omega)
theorem aaY{x n:Int}(J:0<=x)(hn:0<n):0<=x.tmod n/\x.tmod n<n:=⟨Int.tmod_nonneg _ J,Int.tmod_lt_of_pos _ hn⟩
def JN(K:Out->Out)(o:Out):Out:=nd o.isSome (K o)
theorem gjs{P:Nat->b8->Prop}{K:Out->Out}{o:Out}(h:GG P (JN K o)):GG P (nd o.isSome (K o)):=h
theorem km{P:Nat->b8->Prop}{K:Out->Out}{c:Bool}{t:Out}(J:c=true)(h:GG P (JN K t)):GG P (JN K (nd c t)):=by rw[J,aP];exact h
theorem abn{P:Nat->b8->Prop}{K:Out->Out}{n:Nat}{c:Bool}{t:Out}(J:c=true)(h:GG P (JN K t)):GG P (JN K (ndN n c t)):=by rw[J,kg];exact h
theorem aex{P:Nat->b8->Prop}{K:Out->Out}{c:Bool}{t u:Out}(h1:c=true->GG P (JN K t))(J:c=false->GG P (JN K u)):GG P (JN K (bif c then t else u)):=by
 cases c with
 | true=>exact h1 rfl
 | false=>exact J rfl
theorem pS{P:Nat->b8->Prop}{K:Out->Out}{l:b8}(h:GG P (K (nx l))):GG P (JN K (nx l)):=h
def amE(z:D):Bool:=leI z 1000
theorem akX:amE (.l [])=true:=bb (by show (0:Int)<=1000;omega)
theorem aiH{P:Program}{f:FuncId}{args args':List T}{res:T}(hw:res.sh.isW=false)(hl:args'.length=args.length)
  (ha:∀(j:Nat) O,args'[j]?=some O->∃t,args[j]?=some t/\O.sh=t.sh/\(O.p=t.p\/∃k,t.sh=.one (.c (.d k))/\O.p = [t.p 0])) (h:aQ P f args' res):aQ P f args res:=by
 refine aQ.of hw ⟨(h.n hw).1,fun w prot vs hA hB=>(h.n hw).2 w prot vs ⟨hA.1.trans hl.symm,fun j O hj=>?_⟩ hB⟩;obtain⟨t,h1,V,J⟩:=ha j O hj;obtain⟨u,k1,Z⟩:=hA.2 j t h1;refine⟨u,k1,?_⟩;obtain⟨sh,p⟩:=t;obtain⟨U,p'⟩:=O;have V:U=sh:=V;subst V;rcases J with J | ⟨k,J,Y⟩
 ·have J:p'=p:=J;rw[J];exact Z
 ·have J:U=.one (.c (.d k)):=J;have Y:p' = [p 0]:=Y;subst J Y;exact Z
theorem alC{P:Program}{f:FuncId}{U O:Sh}{k:S}{p q r:b8}{res:T}(hw:res.sh.isW=false)(h:aQ P f [⟨U,p⟩,⟨.one (.c (.d k)),[q 0]⟩,⟨O,r⟩] res):aQ P f [⟨U,p⟩,⟨.one (.c (.d k)),q⟩,⟨O,r⟩] res:=
 aiH (args':= [⟨U,p⟩,⟨.one (.c (.d k)),[q 0]⟩,⟨O,r⟩]) hw rfl (fun j V J=>by
  match j,J with
  | 0,J=>injection J with J;subst J;exact⟨_,rfl,rfl,.inl rfl⟩
  | 1,J=>injection J with J;subst J;exact⟨_,rfl,rfl,.inr ⟨k,rfl,rfl⟩⟩
  | 2,J=>injection J with J;subst J;exact⟨_,rfl,rfl,.inl rfl⟩) h
end Go.Proofs.YtpdfmcmnjikppaaGreat
end
