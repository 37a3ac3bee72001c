/-
 Texts of the proof,put together: part 10.
-/
import Derived.Test.YtpdfmcmnjikppaaGreatSS1
import Derived.Test.YtpdfmcmnjikppaaGreatSS2
import Derived.Test.YtpdfmcmnjikppaaGreatSS3
import Derived.Test.YtpdfmcmnjikppaaGreatSS4
import Derived.Test.YtpdfmcmnjikppaaGreatSS5
import Derived.Test.YtpdfmcmnjikppaaGreatSS6
import Derived.Test.YtpdfmcmnjikppaaGreatSS7
import Derived.Test.YtpdfmcmnjikppaaGreatSS8
import Derived.Test.YtpdfmcmnjikppaaGreatSS9
import Derived.Deep.Slices
import Derived.Deep.Fields
import Derived.OpenShut
set_option linter.unusedSimpArgs false
set_option linter.unusedVariables false
set_option linter.unusedSectionVars false
namespace Go.Proofs.YtpdfmcmnjikppaaGreat
set_option maxRecDepth 4096
set_option maxHeartbeats 1000000
open Go.RowKit Go.Lib
noncomputable def stI(y A B:b8)(K:Nat)(j:Int):b8:= [gd y 0,gd y 1,gd y 2,gd y 3,gd y 4,.b (ltI (gd y 4).int 14),stN y,.i (stX y),.i (stL y),.i 0,.i 0,gd A K,gd B K,.i ((stX y).tmod 7),.b (!(aY (sub A 0 9))),.i j,
 gd y 5,gd y 6,gd y 7,gd y 8,gd y 9,gd y 10,gd y 11,gd y 12,gd y 13,gd (stA y) 0,gd (stA y) 1,gd A 0,gd A 1,gd A 2,gd A 3,gd A 4,gd A 5,gd A 6,gd A 7,gd A 8]
theorem akn(N:Nat)(p y A B:b8)(K:Nat)(j:Int):iC N p (stI y A B K j) =
 bif ltI j ((gd y 10).rows.length:Int) then nd (al j (gd y 10).rows.length) (bif (gd ((gd y 10).rows.getD j.toNat []) 0).int==(stN y).int then nd (7 != 0) (bif ((stX y).tmod 7)==4 then nx (stI y A B K (w64 (j+1)))
 else bif !(ip (iW (gd A 4) (gd ((gd y 10).rows.getD j.toNat []) 0)) (rc (gd y 9) (gd ((gd y 10).rows.getD j.toNat []) 0))) then ob false
 else nx (stI y A B K (w64 (j+1))))
 else bif !(ip (iW (gd A 4) (gd ((gd y 10).rows.getD j.toNat []) 0)) (rc (gd y 9) (gd ((gd y 10).rows.getD j.toNat []) 0))) then ob false
 else nx (stI y A B K (w64 (j+1))))
 else ex 3 (stI y A B K j):=Gw N p _ _ _ _ _ _ _ _ _ _ _ _ _ _ _ _ _ _ _ _ _ _ _ _ _ _ _ _ _ _ _ _ _ _ _ _
def StI(z:D)(k:Nat)(s:b8):Prop:=s=sub s 0 14/\gd s 0=z/\(gd s 4).int=(k:Int)/\k<=14/\SR (120+k) (sub s 5 9)
def StQ(z:D)(k c:Nat)(l:b8):Prop:=(c=0/\k<14/\StI z (k+1) l)\/(c≠0/\c=2)
theorem akx{z:D}{k N:Nat}{p y A B:b8}{K:Nat}(hI:StI z k y)(hk:k<14)(hN:60<N)(hc:(gd B K).int=(gd A K).int)(h1:(gd A K).int≠1)(hs:SOk (sub A 0 9))(hr:(gd A 8).int<=(121+k:Nat))
  (hl:∀h∈ai (gd y 10),(h=(stN y).int/\(stX y).tmod 7=4)\/(gd A 4).rows.filter (fun r=>(gd r 0).int==h)=(gd y 9).rows.filter fun r=>(gd r 0).int==h):GG (StQ z k) (stT N p y A B K):=by
 obtain⟨hy,Y,Z,_,hS,_⟩:=hI;have hsh:=(cQ _).2 hs;have V:aR (gd y 9)=true:=hS.lk;have O:aR (gd A 4)=true:=hs.lk;have h5:(gd y 10).rows.length<=60:=(cD (p:=sub y 5 9) ((cQ _).2 hS)).2.2.1;unfold stT;rw[hc,I1,f5,show ((gd A K).int==1)=false from v8.2 h1,f5,sW hsh,aP,hsh];have e:=bM (L:=iC N p) (fun j=>stI y A B K (j:Int)) (gd y 10).rows.length 3 (fun j U=>?_) ?_ (N:=N) (by omega)
 ·refine geq (o':=nx ([gd y 0,gd y 1,gd y 2,gd y 3,.i (w64 ((gd y 4).int+1))]++sub A 0 9)) ?_ (cu (.inl ⟨rfl,hk,rfl,Y,?_,hk,hs,?_⟩))
  ·have J:stI y A B K ((0:Nat):Int) = [gd y 0,gd y 1,gd y 2,gd y 3,gd y 4,.b (ltI (gd y 4).int 14),stN y,.i (stX y),.i (stL y),.i 0,.i 0,gd A K,gd B K,.i ((stX y).tmod 7),.b (!(aY (sub A 0 9))),.i 0]++(sub y 5 9++(stA y++sub A 0 9)):=rfl;rw[hsh,l8] at J;rw[l8,f5,<- J,e];rfl
  ·show w64 ((gd y 4).int+1)=((k+1:Nat):Int);rw[Z,br (by omega) (by omega)];omega
  ·show (gd A 8).int<=_;omega
 ·rw[akn,gJ (by omega),f8,show al (j:Int) (gd y 10).rows.length=true from by simp only[al,a9,f7];omega,aP];have e1:w64 ((j:Int)+1)=((j+1:Nat):Int):=by rw[br (by omega) (by omega)];omega
  rw[e1,g4];have hm:(gd ((gd y 10).rows.getD j []) 0).int∈ai (gd y 10):=by rw[aU U];exact N6 (p9 U)
  have hh:=hl _ hm;generalize gd ((gd y 10).rows.getD j []) 0=h at *;have go:(gd A 4).rows.filter (fun r=>(gd r 0).int==h.int)=(gd y 9).rows.filter (fun r=>(gd r 0).int==h.int)->(bif !(ip (iW (gd A 4) h) (rc (gd y 9) h)) then ob false else nx (stI y A B K ((j+1:Nat):Int)))=nx (stI y A B K ((j+1:Nat):Int)):=fun e=>by rw[aiN V O e];rfl
  rcases hh with⟨e2,e3⟩ | e2
  ·rw[e2,e3,n8];rfl
  ·rw[go e2];cases h.int==(stN y).int <;> cases (stX y).tmod 7==4 <;> rfl
 ·rw[akn,gh (by omega)];rfl
section
variable {z:D} {k N:Nat} {p y B X:b8} (hI:StI z k y) (hk:k<14) (hN:60<N)
include hI hk hN
theorem akz(J:(gd B 9).int=(gd X 9).int)(h1:(gd X 9).int≠1)(hs:SOk (sub X 0 9))(U:(gd X 8).int<=(121+k:Nat))
  (O:∀h∈ai (gd y 10),(h=(stN y).int/\(stX y).tmod 7=4)\/(gd X 4).rows.filter (fun r=>(gd r 0).int==h)=(gd y 9).rows.filter fun r=>(gd r 0).int==h):GG (StQ z k) (stT N p y (sub X 0 10) B 9):=
 akx (A:=sub X 0 10) (K:=9) hI hk hN J h1 hs U O
theorem amY(J:(gd B 10).int=(gd X 10).int)(h1:(gd X 10).int≠1)(hs:SOk (sub X 0 9))(U:(gd X 8).int<=(121+k:Nat))
  (O:∀h∈ai (gd y 10),(h=(stN y).int/\(stX y).tmod 7=4)\/(gd X 4).rows.filter (fun r=>(gd r 0).int==h)=(gd y 9).rows.filter fun r=>(gd r 0).int==h):GG (StQ z k) (stT N p y (sub X 0 11) B 10):=
 akx (A:=sub X 0 11) (K:=10) hI hk hN J h1 hs U O
theorem akL{q:D}(U:(gd B 9).int=(gd X 9).int)(h1:(gd X 9).int≠1)(O:q.int<=(121+k:Nat))(l:Lft (sub y 5 9) q X):GG (StQ z k) (stT N p y (sub X 0 10) B 9):=by
 refine akz hI hk hN U h1 l.ok ?_ fun h J=>.inr (l.kl h J)
 have V:(gd y 13).int<=(120+k:Nat):=hI.2.2.2.2.2;rcases l.rk with e | e
 ·rw[e];show (gd y 13).int<=_;omega
 ·rw[e];exact O
theorem akO{q:D}(U:(gd B 10).int=(gd X 10).int)(h1:(gd X 10).int≠1)(O:q.int<=(121+k:Nat))(l:Lft (sub y 5 9) q X):GG (StQ z k) (stT N p y (sub X 0 11) B 10):=by
 refine amY hI hk hN U h1 l.ok ?_ fun h J=>.inr (l.kl h J)
 have V:(gd y 13).int<=(120+k:Nat):=hI.2.2.2.2.2;rcases l.rk with e | e
 ·rw[e];show (gd y 13).int<=_;omega
 ·rw[e];exact O
end
section
variable {z:D} {k N:Nat} {p y:b8} (hz:Gu z=true) (hz2:(z.rows.length:Int)<=1048576) (hI:StI z k y) (hk:k<14) (hN:60<N)
include hI
theorem wR:aY (sub (sub y 5 9) 0 9)=true:=(cQ _).2 hI.2.2.2.2.1
theorem TC:(gd (sub y 5 9) 8).int<=(121+k:Nat):=by have:(gd y 13).int<=(120+k:Nat):=hI.2.2.2.2.2;show (gd y 13).int<=_;omega
include hk
theorem ajy:inB (stQ y).int 1 1000000=true/\(stQ y).int<=(121+k:Nat):=by have O:(gd y 13).int<=(120+k:Nat):=hI.2.2.2.2.2;have J:inB (gd y 13).int 0 1000000=true:=hI.2.2.2.2.1.rk;simp only[inB,a9,f7] at J;have e:(stQ y).int=(gd y 13).int+1:=br (by omega) (by omega);rw[e];refine⟨?_,by omega⟩;simp only[inB,a9,f7];omega
theorem ajh:w64 (4*(gd y 4).int)=4*(k:Int)/\w64 (w64 (4*(gd y 4).int)+1)=4*(k:Int)+1/\w64 (w64 (4*(gd y 4).int)+2)=4*(k:Int)+2:=by have J:(gd y 4).int=(k:Int):=hI.2.2.1;rw[J,br (x:=4*(k:Int)) (by omega) (by omega),br (by omega) (by omega),br (by omega) (by omega)];exact⟨rfl,rfl,rfl⟩
include hz hz2
theorem amK:0<=stX y/\stX y<=255:=by unfold stX;rw[(ajh hI hk).2.1,hI.2.1];exact ahL hz hz2 (by omega) (by omega)
theorem amC:0<=stL y/\stL y<=29:=by have:=ahL hz hz2 (i:=4*(k:Int)+2) (by omega) (by omega);unfold stL;rw[(ajh hI hk).2.2,hI.2.1,H1 this.1];omega
theorem alF:inB (stN y).int 1 60=true:=by have:=ahL hz hz2 (i:=4*(k:Int)) (by omega) (by omega);show inB (w64 (1+((atF (gd y 0) (w64 (4*(gd y 4).int))).tmod 9))) 1 60=true;rw[(ajh hI hk).1,hI.2.1,H1 this.1,br (by omega) (by omega)];simp only[inB,a9,f7];omega
theorem aeY:ar (sub (stA y) 0 2)=true:=by have J:=amK hz hz2 hI hk;have O:=amC hz hz2 hI hk;show (decide (stL y>=0)&&(decide (stL y<w64 (w64 (stL y+1)+(stX y).tmod 5))&&decide (w64 (w64 (stL y+1)+(stX y).tmod 5)<=1000)))=true;rw[H1 J.1,br (x:=stL y+1) (by omega) (by omega),br (by omega) (by omega)];simp only[a9,f7];omega
theorem ank:aO (stW y)=true:=by
 have O:=amK hz hz2 hI hk;have J:=amC hz hz2 hI hk;have e:w64 (stL y+2)=stL y+2:=br (by omega) (by omega);unfold stW;rw[e];generalize stL y=a at *;generalize stX y=b at *;have V:fL (.l [[.i a,.i b],[.i (a+2),.i (-1)]]) 0=true:=by simp only[fL];simp[gd,D.rows,D.int,inB,J,O];omega
 have U:fL (.l [[.i a,.i b],[.i (a+2),.i (-1)]]) 1=true:=by simp only[fL];simp[gd,D.rows,D.int,inB,J,O];omega
 unfold aO;show (decide ((2:Int)<=60)&&(fL _ 0&&(fL _ 1&&true)))=true;rw[V,U];rfl
include hN
theorem afq:GG (StQ z k) (alo N p y):=by have hs:=wR hI;have h1:=amS hs (alF hz hz2 hI hk) (aeY hz hz2 hI hk);refine gnd (sW hs) (akO hI hk hN ?_ h1 (TC hI) (ahw h1));rw[XO];exact (Rx (sub y 5 9) (stN y) (stA y)).1
theorem ahg:GG (StQ z k) (amf N p y):=by have hs:=wR hI;have h1:=amU hs (alF hz hz2 hI hk) (ank hz hz2 hI hk);have J:=Rq (sub y 5 9) (stN y) (.l []) (stW y);refine gnd (sW hs) (akL hI hk hN ?_ h1 (TC hI) (J.2 h1).1);rw[Ye];exact J.1
theorem alc:GG (StQ z k) (amj N p y):=by have hs:=wR hI;have h1:=alb hs (ajy hI hk).1 (aeY hz hz2 hI hk);have J:=Va (sub y 5 9) (stQ y) (stA y);refine gnd (sW hs) (akO hI hk hN ?_ h1 (ajy hI hk).2 (J.2 h1).1);rw[TT];exact J.1
theorem alA:GG (StQ z k) (amq N p y):=by have hs:=wR hI;have h1:=amI hs (ajy hI hk).1 (aeY hz hz2 hI hk);refine gnd (sW hs) (akL hI hk hN ?_ h1 (ajy hI hk).2 (VN h1));rw[Zi];rfl
theorem alX(Z:(stX y).tmod 7=4):GG (StQ z k) (amQ N p y):=by
 have hs:=wR hI;have h1:=alW hs (alF hz hz2 hI hk) (stY y);have J:=WI (sub y 5 9) (stN y) (stY y);obtain⟨O,Y,V,_⟩:=J.2 h1;refine gnd rfl (gnd (sW hs) (gnd rfl (akz hI hk hN ?_ h1 O ?_ fun h U=>?_)))
 ·rw[SS];exact J.1
 ·rw[Y];exact TC hI
 ·by_cases e:h=(stN y).int
  ·exact .inl ⟨e,Z⟩
  ·exact .inr (V h U e)
theorem amG:GG (StQ z k) (gk N p y):=by
 obtain⟨U,V,Y⟩:=ajh hI hk;have O:GG (StQ z k) (akW N p y):=ch (fun h=>alX hz hz2 hI hk hN (eq_of_beq h)) fun _=>ch (fun _=>alc hz hz2 hI hk hN) fun _=>alA hz hz2 hI hk hN
 have J:GG (StQ z k) (alD N p y):=ch (fun _=>ch (fun _=>ahg hz hz2 hI hk hN) fun _=>O) fun _=>ch (fun _=>ahg hz hz2 hI hk hN) fun _=>O
 refine grd hI.1 (geq (rE N p y) ?_);rw[hI.2.2.1,gJ (by omega),f8,<- hI.2.2.1,U,br (x:=4*(k:Int)+1) (by omega) (by omega),br (x:=4*(k:Int)+2) (by omega) (by omega),bb (by omega),bb (by omega),bb (by omega)];refine gnd rfl (gnd rfl (gnd rfl (gnd rfl (gnd rfl (gnd rfl (gnd rfl ?_))))));exact ch (fun _=>ch (fun _=>afq hz hz2 hI hk hN) fun _=>J) fun _=>ch (fun _=>afq hz hz2 hI hk hN) fun _=>J
end
noncomputable def JA:Ent:=(6,e1 (sd (.sl 5)) fun p=>(⟨rb,[.b true]⟩,Gu (gd p 0)))
theorem DT:aw f4 JA:=ck fun p h=>aq (N:=62) (ks:=bO) Av Tryz.func6 fun hw=>by
 rw[DO];have h:Gu (gd p 0)=true:=h;refine congrArg (fun x=>some (bo,x)) ?_;rw[f8];cases J:ltI 1048576 ((gd p 0).rows.length:Int) with
 | true=>rfl
 | false =>
  have J:((gd p 0).rows.length:Int)<=1048576:=by have:=J6 J;omega
  have hI:StI (gd p 0) 0 (aiW p):=⟨rfl,rfl,rfl,by omega,amH (bb J)⟩;obtain⟨c,l,e,O⟩:=tO (Q:=fun c _=>c=2) (StI (gd p 0)) 14 (fun k s hs=>by
   by_cases hk:k<14
   ·exact amG (N:=62) (p:=p) h J hs hk (by omega)
   ·refine grd hs.1 (geq (rE 62 p s) ?_);rw[hs.2.2.1,gh (by omega)];exact cu (.inr ⟨by decide,rfl⟩)) 62 0 _ hI (by omega) (by omega)
  subst O;rw[bb J,e];rfl
open Go.ChangeShapes Go.WideShapes Go.ChangeAt Go.Deep
def oM(w:World)(b:Nat):Nat:=
 match w.heap[b]? with
 | some (.cells arr _ _)=>arr.size
 | _=>0
theorem Zs{w:World}{b o:Nat}{u:Value}(h:w.cell? ⟨b,o,none⟩=some u):o<oM w b:=by
 unfold World.cell? at h;simp only at h;unfold oM;cases J:w.heap[b]? with
 | none=>rw[J] at h;cases h
 | some x =>
  rw[J] at h;cases x with
  | cells O t f =>simp only at h ⊢;exact (t7.1 h).1
  | _=>simp at h
theorem UM{w:World}{b:Nat}(h:w.heap.size<=b):oM w b=0:=by unfold oM;rw[F1 h]
def ahl(P:Program)(row:List S)(O:Array Field):Bool:=
 (List.range row.length).all fun j=>(List.range O.size).any fun i=>match O[i]? with
  | some f=>match bk P f.type with
   | some J=>decide (f.offset<=j)&&decide (j<f.offset+J.length)&&J.length==P.cellsOf f.type&&J[j - f.offset]?==row[j]?
   | none=>false
  | none=>false
def adm(P:Program):Nat->TypeId->Bool
 | 0,_=>false
 | n+1,T=>match P.underlying T,bk P T with
  | some (.int k),some row=>row == [.int k]
  | some .bool,some row=>row == [.bool]
  | some .string,some row=>row == [.str]
  | some (.slice e),some row=>row == [.sl e]&&(match bk P e with | some J=>P.cellsOf e==J.length && !J.isEmpty&&adm P n e | none=>false)
  | some (.struct fs),some row=>ahl P row fs&&P.cellsOf T==row.length&&fs.toList.all fun f=>adm P n f.type
  | _,_=>false
theorem YL{Q:Nat->D->Prop}(n:Nat)(h:∀i,i<n->∃x,Q i x):∃l:b8,l.length=n/\∀i,i<n->Q i (gd l i):=by
 induction n with
 | zero=>exact⟨[],rfl,fun i hi=>by omega⟩
 | succ n V =>
  obtain⟨l,J,U⟩:=V (fun i hi=>h i (by omega));obtain⟨x,O⟩:=h n (by omega);refine⟨l ++ [x],by simp[J],fun i hi=>?_⟩;by_cases hin:i<n
  ·have:gd (l ++ [x]) i=gd l i:=by simp only[gd,f9];rw[v9 (by omega)]
   rw[this];exact U i hin
  ·obtain rfl:i=n:=by omega
   have:gd (l ++ [x]) i=x:=by simp only[gd,f9];rw[A5 (by omega),J];simp
   rw[this];exact O
theorem Uy{Q:Nat->b8->Prop}(n:Nat)(h:∀i,i<n->∃x,Q i x):∃l:List b8,l.length=n/\∀i,i<n->Q i (l.getD i []):=by
 induction n with
 | zero=>exact⟨[],rfl,fun i hi=>by omega⟩
 | succ n V =>
  obtain⟨l,J,U⟩:=V (fun i hi=>h i (by omega));obtain⟨x,O⟩:=h n (by omega);refine⟨l ++ [x],by simp[J],fun i hi=>?_⟩;by_cases hin:i<n
  ·rw[f9,v9 (by omega),<- f9];exact U i hin
  ·obtain rfl:i=n:=by omega
   rw[f9,A5 (by omega),J];simpa using O
theorem Yf{w:World}{a:Addr}{v:Value}(h:w.cell? a=some v):a=⟨a.block,a.off,none⟩:=by
 cases hs:a.spot with
 | none=>cases a;simp at hs;subst hs;rfl
 | some s =>
  unfold World.cell? at h;rw[hs] at h;simp at h
  split at h <;> simp at h
theorem JB{b o i:Nat}:(⟨b,o,none⟩:Addr).add i=⟨b,o+i,none⟩:=by
 unfold Addr.add
 split
 ·rename_i h;rw[h];rfl
 ·rfl
theorem Ub{H:Type}{enc:TypeId × Value->H}{P:Program}{W:World}{base:Nat}{a8:Nat->Bool}{c0:Bool}:∀(n:Nat) (T:TypeId) (row:List S),adm P n T=true->bk P T=some row ->
  ∀(a4:Nat) (cs:List Value) (y:DataW H × List MemPlace),DataW.trod enc P W base a8 c0 a4 T cs=some y ->
  ∃p:b8,cs.length=row.length/\∀j s,row[j]?=some s->∃u,cs[j]?=some u/\VD P W (oM W) s (gd p j) u
 | 0,T,row,O,_,_,_,_,_=>by cases O
 | n+1,T,row,O,hrow,a4,cs,y,h=>by
  rw[adm,hrow] at O
  split at O
  ·rename_i k Z U J;injection J with J;subst J
   have O:row = [.int k]:=by simpa using O
   subst O;obtain⟨a,e,_,_⟩:=DataW.trod_int U h;subst e;refine⟨[.i a],rfl,fun j s hs=>?_⟩
   match j,hs with
   | 0,hs=>injection hs with hs;subst hs;exact⟨_,rfl,.int k (.i a)⟩
  ·rename_i Z U J;injection J with J;subst J
   have O:row = [.bool]:=by simpa using O
   subst O;obtain⟨a,e,_⟩:=DataW.trod_bool U h;subst e;refine⟨[.b a],rfl,fun j s hs=>?_⟩
   match j,hs with
   | 0,hs=>injection hs with hs;subst hs;exact⟨_,rfl,.bool (.b a)⟩
  ·rename_i Z U J;injection J with J;subst J
   have O:row = [.str]:=by simpa using O
   subst O;obtain⟨a,e,_⟩:=DataW.trod_string U h;subst e;refine⟨[.s (oJ a)],rfl,fun j s hs=>?_⟩
   match j,hs with
   | 0,hs =>
    injection hs with hs;subst hs
    have:=VD.str (P:=P) (w:=W) (prot:=oM W) (.s (oJ a));rw[so,sX] at this;exact⟨_,rfl,this⟩
  ·rename_i e Z U J;injection J with J;subst J
   simp only[a9] at O;obtain⟨a2,O⟩:=O;have a2:row = [.sl e]:=by simpa using a2
   subst a2
   split at O
   ·rename_i V a7;simp only[a9,p6,m6] at O;obtain⟨⟨hc,c3⟩,d1⟩:=O;have c2:0<V.length:=by cases V with | nil=>cases c3 | cons=>simp
    rcases open_slice U h with⟨rfl,_⟩ | ⟨a,len,cap,m,nn,Dd,Pl,rfl,hb,hlc,hm,hmm,hx,hi⟩
    ·refine⟨[.l []],rfl,fun j s hs=>?_⟩
     match j,hs with
     | 0,hs=>injection hs with hs;subst hs;exact⟨_,rfl,.sl e (.l []) none 0 V (fun _ _=>undef) a7 (y5 _) (by omega) (fun i j hi=>absurd hi (D5 _)) (fun i j s hi=>absurd hi (D5 _))⟩
    ·have d5:len<=m:=by rw[hmm];split <;> omega
     have ha:0<len->a=⟨a.block,a.off,none⟩:=by intro h0;obtain⟨d4,b1,_⟩:=hi 0 (by omega);rw[hc] at b1;obtain⟨_,d2,c1⟩:=World.cells?_some b1;have b4:=c1 0 c2;rw[g6 (by omega)] at b4;have:=Yf b4;rw[K2] at this;simpa [Addr.add] using this
     have hq:∀i,i<len->∃p:b8,∀j s,V[j]?=some s->∃u,W.cell? ⟨a.block,a.off+(i*V.length+j),none⟩=some u/\VD P W (oM W) s (gd p j) u:=by intro i e0;obtain⟨c6,b6,a1⟩:=hi i (by omega);rw[hc] at b6;obtain⟨_,e6,c8⟩:=World.cells?_some b6;obtain⟨p,_,hp⟩:=Ub n e V d1 a7 nn c6 _ a1;refine⟨p,fun j s hs=>?_⟩;obtain⟨u,U,hv⟩:=hp j s hs;have hj:=(g5.1 hs).1;have:=c8 j hj;rw[U,ha (by omega),JB,JB] at this;refine⟨u,?_,hv⟩;rw[<- this];congr 2;omega
     obtain⟨l,a5,b0⟩:=Uy len hq;refine⟨[.l l],rfl,fun j s hs=>?_⟩
     match j,hs with
     | 0,hs =>
      injection hs with hs;subst hs
      refine⟨_,rfl,?_⟩;have b3:=VD.sl (P:=P) (w:=W) (prot:=oM W) e (.l l) (some a) cap V (fun i j=>(W.cell? ⟨a.block,a.off+(i*V.length+j),none⟩).getD undef) a7 (by rw[bp];omega) (by unfold maxLen at hm;omega) ?_ ?_
      ·rw[bp,a5] at b3;exact b3
      ·intro i j hi hj;rw[bp,a5] at hi;obtain⟨u,U,_⟩:=b0 i hi j V[j] (g6 hj);refine⟨a.block,a.off,by rw[<- ha (by omega)],?_,Zs U⟩;rw[U];rfl
      ·intro i j s hi hs;rw[bp,a5] at hi;obtain⟨u,U,hv⟩:=b0 i hi j s hs;show VD P W (oM W) s (gd (l.getD i []) j) ((W.cell? ⟨a.block,a.off+(i*V.length+j),none⟩).getD undef);rw[U];exact hv
   ·cases O
  ·rename_i fs Z U J;injection J with J;subst J
   simp only[a9,p6] at O;obtain⟨⟨a0,c9⟩,a6⟩:=O;obtain⟨xs,nn,_,_,a3,c7,hg⟩:=DataW.trod_struct U h;rw[c9] at a3;have hq:∀j,j<row.length->∃d:D,∀s,row[j]?=some s->∃u,cs[j]?=some u/\VD P W (oM W) s d u:=by
    intro j hj;unfold ahl at a0;rw[i6] at a0;have b2:=a0 j (m0.2 hj);rw[B8] at b2;obtain⟨i,hi,Y⟩:=b2;have hi:=m0.1 hi
    split at Y
    ·rename_i f hf
     split at Y
     ·rename_i rf c5;simp only[a9,f7,p6] at Y;obtain⟨⟨⟨k1,k2⟩,k3⟩,k4⟩:=Y;have c4:adm P n f.type=true:=by rw[i6] at a6;exact a6 f (by have:=t7.1 hf;obtain⟨h1,h2⟩:=this;rw[<- h2];simp)
      have a1:=hg i f hf;rw[g6 (by rw[c7];exact hi)] at a1;obtain⟨p,d3,hp⟩:=Ub n f.type rf c4 c5 nn _ _ a1;refine⟨gd p (j - f.offset),fun s hs=>?_⟩;rw[hs] at k4;obtain⟨u,b5,hv⟩:=hp _ _ k4;refine⟨u,?_,hv⟩;rw[I4 (by omega),y0] at b5;rw[<- b5];congr 1;omega
     ·cases Y
    ·cases Y
   obtain⟨p,_,hp⟩:=YL row.length hq;exact⟨p,a3,fun j s hs=>hp j (g5.1 hs).1 s hs⟩
  ·cases O
theorem aiS{H:Type}{enc:TypeId × Value->H}{P:Program}{W:World}{base:Nat}{J:Nat->Bool}{U:Bool}{T:TypeId}{s:S}{v:Value}{d:DataW H}{ps:List MemPlace}
  (Y:bk P T=some [s]) (hl:adm P 12 T=true) (hv:v.cells.toList = [v]) (hy:DataW.Trod enc P W base J U T v d ps) :
  ∃p,VT P W (g0 W.heap.size (oM W)) W.heap.size ⟨.one (.c (.d s)),p⟩ v:=by
 obtain⟨V,Z⟩:=hy;rw[hv] at Z;obtain⟨p,_,hp⟩:=Ub 12 T [s] hl Y V _ _ Z;obtain⟨u,O,a0⟩:=hp 0 s rfl;injection O with O;subst O;exact⟨p,a0⟩
theorem akY{P:Program}{W:World}{t:T}{v:Value}(h:VT P W (g0 W.heap.size (oM W)) W.heap.size t v):ka P (oM W) W [t] #[v]:=⟨rfl,fun j O J=>by
 match j,J with
 | 0,J=>injection J with J;subst J;exact⟨v,rfl,h⟩⟩
theorem ajj{P:Program}{f:FuncId}{args:List T}{b:Bool}(h:aQ P f args ⟨rb,[.b b]⟩){W:World}{O:Array Value}(V:ka P (oM W) W args O) :
  Calls P f O W fun e U=>e=.returned (.bool b)/\Below W.heap.size W U:=by
 refine ((h.n rfl).2 W (oM W) O V (fun b Y=>UM Y)).mono fun e U Z=>?_
 obtain⟨v,g',rfl,J⟩:=Z;have hv:VD P U g'.prot .bool (.b b) v:=J.val;cases hv;exact⟨rfl,J.below⟩
theorem afm{H:Type}{enc:TypeId × Value->H}{P:Program}{W:World}{base:Nat}{Y:Nat->Bool}{a0:Bool}{T e:TypeId}{v:Value}{d:DataW H}{ps:List MemPlace}{prot:Nat->Nat}{x:D}
  (hT:P.underlying T=some (.slice e)) (he:P.underlying e=some (.int .u8)) (hc:P.cellsOf e=1) (hr:bk P e=some [.int .u8]) (hv:v.cells.toList = [v]) (hy:DataW.Trod enc P W base Y a0 T v d ps) (hx:VD P W prot (.sl e) x v) :
  ∀r∈x.rows,0<=(gd r 0).int/\(gd r 0).int<=255:=by
 obtain⟨a5,hf⟩:=hy;rw[hv] at hf;intro r hm;obtain⟨i,hi,rfl⟩:=n9 hm;cases hx with
 | sl _ _ A c row u J h1 h2 h3 h4 =>
  rw[hr] at J;injection J with J
  subst J;obtain⟨b,o,hA,Z,_⟩:=h3 i 0 hi (by decide);have V:=h4 i 0 (.int .u8) hi rfl;rcases DataW.trod_slice hT hf with⟨e1,_⟩ | ⟨a,len,cap,elems,rest,n,rfl,e1,_,_,hlc,hcm,hel,hall,_⟩
  ·injection e1 with e1
   injection e1 with e1
   rw[hA] at e1;cases e1
  ·injection e1 with e1
   injection e1 with e1 e2 e3
   rw[hA] at e1;injection e1 with e1
   subst e1;have a4:i<len:=by omega
   have h:=hall i a4;rw[g6 (by omega:i<elems.length),Option.bind_eq_some_iff] at h;obtain⟨cs,a3,ht⟩:=h;obtain⟨m,a2,_,U⟩:=DataW.trod_int he ht;obtain⟨_,a6,a1⟩:=World.cells?_some a3;have O:=a1 0 (by rw[hc];decide);rw[a2,hc,JB,JB,show o+i*1+0=o+(i * [S.int IntKind.u8].length+0) from rfl,Z] at O;rw[show x.rows.getD i []=x.rows[i] from by rw[f9,g6 hi];rfl] at V;generalize u i 0=w at V O;cases V;injection O with O
   injection O with h5 h6
   rw[h6];simp only[Lit.wf,a9,f7] at U;exact⟨U.1,U.2⟩
end Go.Proofs.YtpdfmcmnjikppaaGreat
