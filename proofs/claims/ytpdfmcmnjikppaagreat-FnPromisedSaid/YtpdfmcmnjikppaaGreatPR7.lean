/-
 Texts of the proof,put together: part 7.
-/
import Derived.Test.YtpdfmcmnjikppaaGreatPR1
import Derived.Test.YtpdfmcmnjikppaaGreatPR2
import Derived.Test.YtpdfmcmnjikppaaGreatPR3
import Derived.Test.YtpdfmcmnjikppaaGreatPR4
import Derived.Test.YtpdfmcmnjikppaaGreatPR5
import Derived.Test.YtpdfmcmnjikppaaGreatPR6
set_option linter.unusedSimpArgs false
set_option linter.unusedVariables false
set_option linter.unusedSectionVars false
noncomputable section
namespace Go.Proofs.YtpdfmcmnjikppaaGreat
abbrev n9:=@List.length_singleton
abbrev H7:=@List.take_append_of_le_length
abbrev K7:=@List.drop_eq_getElem_cons
abbrev L0:=@List.mem_range'
abbrev M6:=@List.nodup_range'
abbrev O5:=@List.drop_zero
end Go.Proofs.YtpdfmcmnjikppaaGreat
namespace Go.Proofs.YtpdfmcmnjikppaaGreat
set_option maxRecDepth 4096
set_option maxHeartbeats 1000000
theorem Ut{L:b8->Out}{N:Nat}{st:b8}{o:Out}(h:aX L N st=o)(y:b8)(e:y=st):aX L N y=o:=e▸h
def Bo(r x:b8):Bool:=(gd (sub (cP [gd x 1,gd x 2] [gd r 0,gd r 1]) 0 3) 2).bool
def AT(p x:b8):Bool:=ii (gd p 5) (gd x 0).int
theorem LL(l w z:D)(M H:b8->Bool):∀k,(pP l w z M H k).1.rows.length<=l.rows.length/\(pP l w z M H k).2.1.rows.length<=w.rows.length+k
 | 0=>⟨i8 _,i8 _⟩
 | k+1=>by
  obtain⟨h1,O⟩:=LL l w z M H k;rw[pP];cases M (z.rows.getD k [])
  ·exact⟨h1,by show (pP l w z M H k).2.1.rows.length<=_;omega⟩
  ·cases H (z.rows.getD k [])
   ·have J:=zH (pP l w z M H k).1 (gd (z.rows.getD k []) 0).int false;have y:=jq (pP l w z M H k).2.1 (gd (z.rows.getD k []) 0);exact⟨by show (po _ _ _).rows.length<=_;omega,by show (bQ _ _).rows.length<=_;omega⟩
   ·exact⟨h1,by show (pP l w z M H k).2.1.rows.length<=_;omega⟩
theorem dF{p:b8}(h:aW p=true):aY (gd p 4)=true/\(gd p 4).rows.length<=40/\(gd p 5).rows.length<=60/\(gd p 6).rows.length<=60/\gF (gd p 6)=true/\aN (gd p 3)=true/\bB (gd p 1)=true/\bB (gd p 2)=true:=by simp only[aW,a9,leI,g5] at h;obtain⟨_,h1,J,O,y,_,V,U,_,M,_⟩:=h;exact⟨y,((dU _).1 y).2.2,by omega,by omega,M,O,h1,J⟩
theorem gr{p:b8}(h:aW p=true):dY p=true:=by
 obtain⟨_,Y,h5,V,_,M,h1,y⟩:=dF h;simp only[aW,ff,gx,a9,leI,g5,i9,m7] at h;obtain⟨_,_,_,_,_,_,_,_,Z,_,_,_,_,_,_,hw,_⟩:=h;simp only[bB,aN,a9,leI,g5] at h1 y M;have O:=h1.2;have U:=y.2;have W:=M.2;unfold dY;rw[bi (show ((gd p 1).rows.length:Int)<=1000000 by omega),bi (show ((gd p 2).rows.length:Int)<=1000000 by omega),bi (show ((gd p 3).rows.length:Int)<=1000000 by omega),bi (show ((gd p 4).rows.length:Int)<=1000000 by omega),bi (show ((gd p 5).rows.length:Int)<=1000000 by omega),bi (show ((gd p 6).rows.length:Int)<=1000000 by omega),bi (show ((gd p 7).rows.length:Int)<=1000000 by omega)];simp only[y7,i9,m7];intro k hk;have J:hJ p k=true:=by
  have:=hw k hk;cases k with
  | zero=>simp only[fK,a9] at this;exact this.2
  | succ k=>simp only[fK,a9] at this;exact this.2.2
 simp only[hJ,a9] at J;have:=kM J.1;exact bi (by omega)
theorem EH(p q r:b8):(dY (sub p 0 9)||(aV (sub p 0 9) q (sub r 0 2))==1)=true:=by
 cases h:aW (sub p 0 9) with
 | true=>rw[gr h,M1]
 | false =>unfold aV;rw[show sub (sub p 0 9) 0 9=sub p 0 9 from rfl,h];exact J8 _
theorem adA{z:D}(h:gF z=true):(an z).Pairwise (· < ·):=by
 simp only[gF,i9,m7] at h;have J:∀k,k+1<z.rows.length->(gd (z.rows.getD k []) 0).int<(gd (z.rows.getD (k+1) []) 0).int:=fun k hk=>by have:=h (k+1) hk;simp only[mE,a9,leI,o8,B9] at this;omega
 have hl:∀d i,i+d+1<z.rows.length->(gd (z.rows.getD i []) 0).int<(gd (z.rows.getD (i+d+1) []) 0).int:=fun d=>by
  induction d with
  | zero=>exact fun i hi=>J i hi
  | succ d M=>exact fun i hi=>Int.lt_trans (M i (by omega)) (J (i+d+1) hi)
 refine y6.2 fun i j hi y O=>?_
 rw[cr] at hi y;obtain⟨_,e1⟩:=g7.1 (dC z i hi);obtain⟨_,e2⟩:=g7.1 (dC z j y);rw[e1,e2];have:=hl (j - i - 1) i (by omega)
 rwa [show i+(j - i - 1)+1=j from by omega] at this
theorem Mz{p q r:b8}(h:(aV (sub p 0 9) q (sub r 0 2) != 0)=false):aW (sub p 0 9)=true/\ax (sub r 0 2)=true:=by
 unfold aV at h;rw[show sub (sub p 0 9) 0 9=sub p 0 9 from rfl,show sub (sub r 0 2) 0 2=sub r 0 2 from rfl] at h;revert h;cases aW (sub p 0 9)
 ·intro h;cases h
 ·cases inB (gd q 0).int 1 1000000
  ·intro h;cases h
  ·cases ax (sub r 0 2)
   ·intro h;cases h
   ·exact fun _=>⟨rfl,rfl⟩
def abT(p:b8)(q:D)(r:b8)(s:D × D × Bool):b8:= [gd p 0,.l (gd p 1).rows,gd (sub (jo (gd p 2) (sub r 0 2) (.b true)) 0 2) 0,.l (gd p 3).rows,s.1,gd (dpS p) 5,s.2.1,.l (gd p 7).rows,q]++(bif s.2.2 then[.l [],.i 5] else[pk (gd p 3) (sub r 0 2) true,.i 0])
def aeV(p:b8)(q:D)(r:b8):b8:=
 bif aV (sub p 0 9) [q] (sub r 0 2) != 0 then sub (du (sub p 0 9) (aV (sub p 0 9) [q] (sub r 0 2))) 0 9 ++ [.l [],.i (aV (sub p 0 9) [q] (sub r 0 2))]
 else bif !(aT (gd p 1) (sub r 0 2)) then dpS p ++ [.l [],.i 4]
 else bif !(gd (sub (jo (gd p 2) (sub r 0 2) (.b true)) 0 2) 1).bool then dpS p ++ [.l [],.i 6]
 else abT p q r (pP (.l (gd p 4).rows) (.l (gd p 6).rows) (gd p 4) (Bo r) (AT p) (gd p 4).rows.length)
abbrev xv:=find [Oq,sm,abb]
abbrev xX:=[0,1,2,5,6,7,8,9,11,14,15,16,17,23,38]
def lJ(N:Nat)(p q r:b8):b8->Out:=bb f8 xv N xX Tryz.f253 (.tup [.c (.own (0,0) true 3),.c (.own (0,1) true 3)]) [⟨sd (.sl 93),p⟩,⟨sd (.sl 3),q⟩,⟨ag dG,r⟩] 0
theorem Fi(N:Nat)(p q r:b8)(x0 x1 x2 x3 x4 x5 x6 x7 x8 Z M J U y O V W Y:D):(lJ N p q r) [x0,x1,x2,x3,x4,x5,x6,x7,x8,Z,M,J,U,y,O,V,W,Y] =
 bif ltI y.int U.int then nd (ah y.int J.rows.length) (bif !(cX [O,V,W,Y] (sub (J.rows.getD y.int.toNat []) 0 4)) then nx [x0,x1,x2,x3,x4,x5,x6,x7,x8,Z,M,J,U,.i (w64 (y.int+1)),O,V,W,Y]
 else nd (lK Z&&leI (Z.rows.length:Int) 40000) (bif ltI (gd (J.rows.getD y.int.toNat []) 0).int O.int then nd (lK M&&leI (M.rows.length:Int) 40000) (nx [x0,x1,x2,x3,x4,x5,x6,x7,x8,bQ Z (gd (J.rows.getD y.int.toNat []) 0),bQ M (gd (J.rows.getD y.int.toNat []) 0),J,U,.i (w64 (y.int+1)),O,V,W,Y])
 else bif aC x1 (gd (J.rows.getD y.int.toNat []) 0).int then nd (lK M&&leI (M.rows.length:Int) 40000) (nx [x0,x1,x2,x3,x4,x5,x6,x7,x8,bQ Z (gd (J.rows.getD y.int.toNat []) 0),bQ M (gd (J.rows.getD y.int.toNat []) 0),J,U,.i (w64 (y.int+1)),O,V,W,Y])
 else nx [x0,x1,x2,x3,x4,x5,x6,x7,x8,bQ Z (gd (J.rows.getD y.int.toNat []) 0),M,J,U,.i (w64 (y.int+1)),O,V,W,Y]))
 else ex 0 [x0,x1,x2,x3,x4,x5,x6,x7,x8,Z,M,J,U,y,O,V,W,Y]:=by kernel_rfl
theorem Ra(N:Nat)(p q r:b8):bf f8 xv N xX Tryz.f253 (.tup [.c (.own (0,0) true 3),.c (.own (0,1) true 3)]) [⟨sd (.sl 93),p⟩,⟨sd (.sl 3),q⟩,⟨ag dG,r⟩]=some (bo,
 (let y:=aX (lJ N p q r) N [gd p 0,gd q 0,gd r 0,gd r 1,gd r 2,gd r 3,.i 0,.l [],.l [],.l [],.l [],gd p 0,.i ((gd p 0).rows.length:Int),.i 0,gd r 0,gd r 1,gd r 2,gd r 3]
  nd y.isSome (nd (y.code==2) (some (1,sub y.pay 9 2))))):=by kernel_rfl
def ON(x r:b8):Bool:=cX (sub x 0 4) (sub r 0 4)
def US(h:D)(x r:b8):Bool:=cX (sub x 0 4) (sub r 0 4)&&(ltI (gd r 0).int (gd x 0).int||aC h (gd r 0).int)
def clA(l:D)(x:b8):D:=dy l (ON x) l.rows.length
def clW(l h:D)(x:b8):D:=dy l (US h x) l.rows.length
def JL:Ent:=(253,e3 (sd (.sl 93)) (sd (.sl 3)) (ag dG) fun p q r=>(⟨.tup [.c (.own (0,0) true 3),.c (.own (0,1) true 3)],[clA (gd p 0) r,clW (gd p 0) (gd q 0) r]⟩,leI ((gd p 0).rows.length:Int) 40000))
theorem QE:ay f8 JL:=gW fun p q r h=>au (N:=(gd p 0).rows.length+1) (ks:=xX) (al (fC ⟨LW,fC ⟨sV,fC ⟨He,fN⟩⟩⟩)) Tryz.func253 fun hw=>by
 rw[Ra];have h:leI ((gd p 0).rows.length:Int) 40000=true:=h;have hl:((gd p 0).rows.length:Int)<=40000:=i7 h;have e:=cJ (L:=lJ ((gd p 0).rows.length+1) p q r) (fun k => [gd p 0,gd q 0,gd r 0,gd r 1,gd r 2,gd r 3,.i 0,.l [],.l [],dy (gd p 0) (ON r) k,dy (gd p 0) (US (gd q 0) r) k,gd p 0,.i ((gd p 0).rows.length:Int),.i (k:Int),gd r 0,gd r 1,gd r 2,gd r 3]) (gd p 0).rows.length 0 (fun k hk=>?_) ?_ (N:=(gd p 0).rows.length+1) (by omega)
 ·simp only[j9] at e;rw[show dy (gd p 0) (ON r) 0=.l [] from rfl,show dy (gd p 0) (US (gd q 0) r) 0=.l [] from rfl] at e;rw[e];rfl
 ·show lJ _ p q r [_,_,_,_,_,_,_,_,_,_,_,_,_,.i (k:Int),_,_,_,_]=_;rw[Fi];have hm:=(qJ (gd p 0) (ON r) k (by omega)).1;have y:=(qJ (gd p 0) (US (gd q 0) r) k (by omega)).1;have M:=je (gd p 0) (ON r) k;have J:=je (gd p 0) (US (gd q 0) r) k;simp only[aA,di hk,bu hk,g8,aG hk (show (gd p 0).rows.length<=9223372036854775807 by omega),aU,CE hm,CE y,bi (show ((dy (gd p 0) (ON r) k).rows.length:Int)<=40000 by omega),bi (show ((dy (gd p 0) (US (gd q 0) r) k).rows.length:Int)<=40000 by omega),u5];rw[dy,dy,ON,US,show sub r 0 4 = [gd r 0,gd r 1,gd r 2,gd r 3] from rfl];cases cX [gd r 0,gd r 1,gd r 2,gd r 3] (sub ((gd p 0).rows.getD k []) 0 4) <;> cases ltI (gd ((gd p 0).rows.getD k []) 0).int (gd r 0).int <;> cases aC (gd q 0) (gd ((gd p 0).rows.getD k []) 0).int <;> rfl
 ·show lJ _ p q r [_,_,_,_,_,_,_,_,_,_,_,_,.i ((gd p 0).rows.length:Int),.i ((gd p 0).rows.length:Int),_,_,_,_]=_;rw[Fi];simp only[aA,ca]
abbrev Eo:=find [abb]
abbrev DC:=[0,1,2,3]
theorem Nk(N:Nat)(p q:b8):bf f8 Eo N DC Tryz.f254 rb [⟨ag dG,p⟩,⟨.one (.c (.cptr [.sl 3] 0)),q⟩]=some (bo,
 ob (aC (gd ((gd q 0).rows.getD 0 []) 0) (gd p 0).int)):=by kernel_rfl
def pO(p q:b8):Bool:=
 aC (gd ((gd q 0).rows.getD 0 []) 0) (gd p 0).int
def EY:Ent:=(254,e2 (ag dG) (.one (.c (.cptr [.sl 3] 0))) fun p q=>(⟨rb,[.b (pO p [gd q 0])]⟩,true))
theorem yz:ay f8 EY:=bm fun p q h=>au (N:=0) (ks:=DC) (al (fC ⟨He,fN⟩)) Tryz.func254 fun hw=>by
 rw[Nk]
 try simp only[er,ez,eo]
 rfl
abbrev abi:=find [EY]
abbrev aaw:=[0,1,4,5,7,8,9,16]
def Gt(N:Nat)(p q:b8):b8->Out:=bb f8 abi N aaw Tryz.f234 ri [⟨sd (.sl 93),p⟩,⟨.one (.c (.fn 254 [.cptr [.sl 3] 0])),q⟩] 0
theorem abA(N:Nat)(p q:b8)(y J O M x4:D):(Gt N p q) [y,J,O,M,x4] =
 bif ltI x4.int M.int then nd (ah x4.int y.rows.length) (bif pO (sub (y.rows.getD x4.int.toNat []) 0 4) [gd (J.rows.getD 0 []) 0] then some (1,[x4])
 else nx [y,J,O,M,.i (w64 (x4.int+1))])
 else ex 0 [y,J,O,M,x4]:=by kernel_rfl
theorem afx(N:Nat)(p q:b8):bf f8 abi N aaw Tryz.f234 ri [⟨sd (.sl 93),p⟩,⟨.one (.c (.fn 254 [.cptr [.sl 3] 0])),q⟩]=some (bo,
 (let y:=aX (Gt N p q) N [gd p 0,gd q 0,.i 0,.i ((gd p 0).rows.length:Int),.i 0]
  nd y.isSome (bif y.code==1 then some (1,y.pay)
  else nd (y.code==2) (oi (-1))))):=by kernel_rfl
def BY(c:D)(r:b8):Bool:=pO r [gd (c.rows.getD 0 []) 0]
def aln:Ent:=(234,e2 (sd (.sl 93)) (.one (.c (.fn 254 [.cptr [.sl 3] 0]))) fun p q=>(⟨ri,[.i (ixF (fun k=>BY (gd q 0) (sub ((gd p 0).rows.getD k []) 0 4)) 0 (gd p 0).rows.length)]⟩,true))
theorem afD:ay f8 aln:=bm fun p q h=>au (N:=(gd p 0).rows.length+1) (ks:=aaw) (al (fC ⟨yz,fN⟩)) Tryz.func234 fun hw=>by
 rw[afx];have hl:=fi (hw ⟨sd (.sl 93),p⟩ (by simp));have e:=iq (L:=Gt ((gd p 0).rows.length+1) p q) (fun k => [gd p 0,gd q 0,.i 0,.i ((gd p 0).rows.length:Int),.i (k:Int)]) (gd p 0).rows.length (fun k=>BY (gd q 0) (sub ((gd p 0).rows.getD k []) 0 4)) [gd p 0,gd q 0,.i 0,.i ((gd p 0).rows.length:Int),.i ((gd p 0).rows.length:Int)] (fun k hk=>?_) ?_ (gd p 0).rows.length 0 ((gd p 0).rows.length+1) (by omega) (by omega)
 ·simp only[j9] at e;rw[e];have y:=gT (fun k=>BY (gd q 0) (sub ((gd p 0).rows.getD k []) 0 4)) (gd p 0).rows.length 0;cases J:decide (ixF (fun k=>BY (gd q 0) (sub ((gd p 0).rows.getD k []) 0 4)) 0 (gd p 0).rows.length>=0)
  ·rw[y J];rfl
  ·rfl
 ·show Gt _ p q [_,_,_,_,.i (k:Int)]=_;rw[abA];simp only[aA,di hk,bu hk,aG hk hl,g8];unfold BY;cases pO (sub ((gd p 0).rows.getD k []) 0 4) [gd ((gd q 0).rows.getD 0 []) 0] <;> rfl
 ·show Gt _ p q [_,_,_,.i ((gd p 0).rows.length:Int),.i ((gd p 0).rows.length:Int)]=_;rw[abA];simp only[aA,ca]
abbrev IM:=find [Bv,ou,fD,Ct]
abbrev IB:=[0,1,2,3,4,8,10]
theorem Qu(N:Nat)(p q r s t:b8):bf f8 IM N IB Tryz.f203 rb [⟨sd (.sl 93),p⟩,⟨sd (.sl 3),q⟩,⟨ri,r⟩,⟨ag aI,s⟩,⟨ri,t⟩]=some (bo,
 bif aY (gd p 0) then bif leI ((gd q 0).rows.length:Int) 60 then bif inB (gd r 0).int 1 60 then bif ax (sub s 0 2) then ob (nc [gd t 0])
 else ob false
 else ob false
 else ob false
 else ob false):=by kernel_rfl
def bN(p q r s t:b8):Bool:=
 bif aY (gd p 0) then bif leI ((gd q 0).rows.length:Int) 60 then bif inB (gd r 0).int 1 60 then bif ax (sub s 0 2) then nc [gd t 0]
 else false
 else false
 else false
 else false
def zn:Ent:=(203,e5 (sd (.sl 93)) (sd (.sl 3)) ri (ag aI) ri fun p q r s t=>(⟨rb,[.b (bN [gd p 0] [gd q 0] [gd r 0] s [gd t 0])]⟩,true))
theorem AH:ay f8 zn:=abq fun p q r s t h=>au (N:=0) (ks:=IB) (al (fC ⟨Dx,fC ⟨kD,fC ⟨eA,fC ⟨FM,fN⟩⟩⟩⟩)) Tryz.func203 fun hw=>by
 rw[Qu]
 try simp only[er,ez,eo]
 rfl
abbrev CK:=find [xB,up]
abbrev Cf:=[0,1,3,4,5,6,11,19,4000005]
def oh(N:Nat)(p q:b8):b8->Out:=bb f8 CK N Cf Tryz.f205 (.one (.c (.d (.sl 3)))) [⟨sd (.sl 93),p⟩,⟨ag dG,q⟩] 0
theorem IR(N:Nat)(p q:b8)(y x1 Z Y x4 x5 x6 W J V U O M:D):(oh N p q) [y,x1,Z,Y,x4,x5,x6,W,J,V,U,O,M] =
 bif ltI J.int (y.rows.length:Int) then nd (ah J.int y.rows.length) (bif lO (sub (y.rows.getD J.int.toNat []) 0 4) [V,U,O,M] then nd (ah J.int y.rows.length) (nd (leI (W.rows.length:Int) 1000000000) (nx [y,x1,Z,Y,x4,x5,x6,bQ W (gd (y.rows.getD J.int.toNat []) 0),.i (w64 (J.int+1)),V,U,O,M]))
 else nx [y,x1,Z,Y,x4,x5,x6,W,.i (w64 (J.int+1)),V,U,O,M])
 else ex 0 [y,x1,Z,Y,x4,x5,x6,W,J,V,U,O,M]:=by kernel_rfl
theorem TA(N:Nat)(p q:b8):bf f8 CK N Cf Tryz.f205 (.one (.c (.d (.sl 3)))) [⟨sd (.sl 93),p⟩,⟨ag dG,q⟩]=some (bo,
 (let y:=aX (oh N p q) N [gd p 0,gd q 0,gd q 1,gd q 2,gd q 3,.i 0,.l [],.l [],.i 0,gd q 0,gd q 1,gd q 2,gd q 3]
  nd y.isSome (nd (y.code==2) (some (1,[gd y.pay 7]))))):=by kernel_rfl
def Rp(x r:b8):Bool:=lO (sub r 0 4) (sub x 0 4)
def eO(l:D)(x:b8):D:=dy l (Rp x) l.rows.length
def Cp:Ent:=(205,e2 (sd (.sl 93)) (ag dG) fun p q=>(⟨.one (.c (.d (.sl 3))),[eO (gd p 0) q]⟩,leI ((gd p 0).rows.length:Int) 40000))
theorem Gj:ay f8 Cp:=bm fun p q h=>au (N:=(gd p 0).rows.length+1) (ks:=Cf) (al (fC ⟨Bf,fC ⟨sA,fN⟩⟩)) Tryz.func205 fun hw=>by
 rw[TA];have h:leI ((gd p 0).rows.length:Int) 40000=true:=h;have hl:((gd p 0).rows.length:Int)<=40000:=i7 h;have e:=cJ (L:=oh ((gd p 0).rows.length+1) p q) (fun k => [gd p 0,gd q 0,gd q 1,gd q 2,gd q 3,.i 0,.l [],dy (gd p 0) (Rp q) k,.i (k:Int),gd q 0,gd q 1,gd q 2,gd q 3]) (gd p 0).rows.length 0 (fun k hk=>?_) ?_ (N:=(gd p 0).rows.length+1) (by omega)
 ·simp only[j9] at e;rw[show dy (gd p 0) (Rp q) 0=.l [] from rfl] at e;rw[e];rfl
 ·show oh _ p q [_,_,_,_,_,_,_,_,.i (k:Int),_,_,_,_]=_;rw[IR];have y:=je (gd p 0) (Rp q) k;simp only[aA,di hk,bu hk,g8,aG hk (show (gd p 0).rows.length<=9223372036854775807 by omega),aU,bi (show ((dy (gd p 0) (Rp q) k).rows.length:Int)<=1000000000 by omega)];rw[dy,Rp,show sub q 0 4 = [gd q 0,gd q 1,gd q 2,gd q 3] from rfl];cases lO (sub ((gd p 0).rows.getD k []) 0 4) [gd q 0,gd q 1,gd q 2,gd q 3] <;> rfl
 ·show oh _ p q [_,_,_,_,_,_,_,_,.i ((gd p 0).rows.length:Int),_,_,_,_]=_;rw[IR];simp only[aA,ca]
abbrev sF:=find [zn,oA,Cp,nq]
abbrev td:=[0,1,2,3,4,8,10,11,12,13,28,42,58]
def ji(N:Nat)(p q r s t:b8):b8->Out:=bb f8 sF N td Tryz.f204 (.one (.c (.d (.sl 3)))) [⟨sd (.sl 93),p⟩,⟨sd (.sl 3),q⟩,⟨ri,r⟩,⟨ag aI,s⟩,⟨ri,t⟩] 0
theorem ya(N:Nat)(p q r s t:b8)(Y W V Z x4 x5 x6 x7 U x9 J y M O:D):(ji N p q r s t) [Y,W,V,Z,x4,x5,x6,x7,U,x9,J,y,M,O] =
 bif ltI y.int (J.rows.length:Int) then nd (ah y.int J.rows.length) (bif ltI (gd (J.rows.getD y.int.toNat []) 0).int V.int then nd (ah y.int J.rows.length) (nd (bl (U.rows ++ [[gd (J.rows.getD y.int.toNat []) 0]])&&true) (nx [Y,W,V,Z,x4,x5,x6,x7,.l (U.rows ++ [[gd (J.rows.getD y.int.toNat []) 0]]),x9,J,.i (w64 (y.int+1)),M,O]))
 else nd (ah y.int J.rows.length) (bif aC W (gd (J.rows.getD y.int.toNat []) 0).int then nd (ah y.int J.rows.length) (nd (bl (U.rows ++ [[gd (J.rows.getD y.int.toNat []) 0]])&&true) (nx [Y,W,V,Z,x4,x5,x6,x7,.l (U.rows ++ [[gd (J.rows.getD y.int.toNat []) 0]]),x9,J,.i (w64 (y.int+1)),M,O]))
 else nx [Y,W,V,Z,x4,x5,x6,x7,U,x9,J,.i (w64 (y.int+1)),M,O]))
 else ex 0 [Y,W,V,Z,x4,x5,x6,x7,U,x9,J,y,M,O]:=by kernel_rfl
theorem Kj(N:Nat)(p q r s t:b8):bf f8 sF N td Tryz.f204 (.one (.c (.d (.sl 3)))) [⟨sd (.sl 93),p⟩,⟨sd (.sl 3),q⟩,⟨ri,r⟩,⟨ag aI,s⟩,⟨ri,t⟩]=some (bo,
 bif !(bN [gd p 0] [gd q 0] [gd r 0] (sub s 0 2) [gd t 0]) then some (1,[.l []])
 else bif holds (gd p 0) (gd r 0) (sub s 0 2) (gd t 0) then some (1,[.l []])
 else nd (leI ((gd p 0).rows.length:Int) 40000) ((let y:=aX (ji N p q r s t) N [gd p 0,gd q 0,gd r 0,gd s 0,gd s 1,gd t 0,.i 0,.l [],.l [],.b (holds (gd p 0) (gd r 0) (sub s 0 2) (gd t 0)),eO (gd p 0) [gd r 0,gd s 0,gd s 1,gd t 0],.i 0,gd s 0,gd s 1]
  nd y.isSome (nd (y.code==2) (some (1,[gd y.pay 8])))))):=by kernel_rfl
def pt(f:D)(n:Int)(h:D):Nat->List b8
 | 0 => []
 | k+1=>bif ltI (gd (f.rows.getD k []) 0).int n||aC h (gd (f.rows.getD k []) 0).int then pt f n h k ++ [[gd (f.rows.getD k []) 0]] else pt f n h k
theorem SO(f:D)(n:Int)(h:D):∀k,(pt f n h k).length<=k
 | 0=>i8 _
 | k+1=>by
  have:=SO f n h k;rw[pt];cases ltI (gd (f.rows.getD k []) 0).int n||aC h (gd (f.rows.getD k []) 0).int
  ·show (pt f n h k).length<=_;omega
  ·show (pt f n h k ++ [[gd (f.rows.getD k []) 0]]).length<=_;rw[i6];simp;omega
def qZ(l h n:D)(a:b8)(m:D):D:=
 bif !(bN [l] [h] [n] (sub a 0 2) [m]) then .l []
 else bif holds l n (sub a 0 2) m then .l []
 else .l (pt (eO l [n,gd a 0,gd a 1,m]) n.int h (eO l [n,gd a 0,gd a 1,m]).rows.length)
theorem zI{l h n:D}{a:b8}{m:D}(e:bN [l] [h] [n] a [m]=true):l.rows.length<=40:=by
 have:aY l=true:=by
  unfold bN at e;cases hk:aY l with
  | true=>rfl
  | false=>rw[show gd [l] 0=l from rfl,hk] at e;exact e
 exact ((dU _).1 this).2.2
def Bl:Ent:=(204,e5 (sd (.sl 93)) (sd (.sl 3)) ri (ag aI) ri fun p q r s t=>(⟨.one (.c (.d (.sl 3))),[qZ (gd p 0) (gd q 0) (gd r 0) s (gd t 0)]⟩,true))
theorem Km:ay f8 Bl:=abq fun p q r s t h=>au (N:=(eO (gd p 0) [gd r 0,gd s 0,gd s 1,gd t 0]).rows.length+1) (ks:=td) (al (fC ⟨AH,fC ⟨nD,fC ⟨Gj,fC ⟨kY,fN⟩⟩⟩⟩)) Tryz.func204 fun hw=>by
 rw[Kj];cases J:bN [gd p 0] [gd q 0] [gd r 0] (sub s 0 2) [gd t 0] with
 | false=>simp only[qZ,J];rfl
 | true =>
  have hl:=zI J;cases M:holds (gd p 0) (gd r 0) (sub s 0 2) (gd t 0) with
  | true=>simp only[qZ,J,M];rfl
  | false =>
   have U:=je (gd p 0) (Rp [gd r 0,gd s 0,gd s 1,gd t 0]) (gd p 0).rows.length;have U:(eO (gd p 0) [gd r 0,gd s 0,gd s 1,gd t 0]).rows.length<=40:=by show (dy _ _ _).rows.length<=_;omega
   have e:=cJ (L:=ji ((eO (gd p 0) [gd r 0,gd s 0,gd s 1,gd t 0]).rows.length+1) p q r s t) (fun k => [gd p 0,gd q 0,gd r 0,gd s 0,gd s 1,gd t 0,.i 0,.l [],.l (pt (eO (gd p 0) [gd r 0,gd s 0,gd s 1,gd t 0]) (gd r 0).int (gd q 0) k),.b false,eO (gd p 0) [gd r 0,gd s 0,gd s 1,gd t 0],.i (k:Int),gd s 0,gd s 1]) (eO (gd p 0) [gd r 0,gd s 0,gd s 1,gd t 0]).rows.length 0 (fun k hk=>?_) ?_ (N:=(eO (gd p 0) [gd r 0,gd s 0,gd s 1,gd t 0]).rows.length+1) (by omega)
   ·simp only[j9] at e;rw[show pt (eO (gd p 0) [gd r 0,gd s 0,gd s 1,gd t 0]) (gd r 0).int (gd q 0) 0 = [] from rfl] at e;simp only[qZ,J,M,n4,f9];rw[e,bi (show ((gd p 0).rows.length:Int)<=40000 by omega)];rfl
   ·show ji _ p q r s t [_,_,_,_,_,_,_,_,_,_,_,.i (k:Int),_,_]=_;rw[ya];have V:=SO (eO (gd p 0) [gd r 0,gd s 0,gd s 1,gd t 0]) (gd r 0).int (gd q 0) k;have O:∀y:b8,bl (pt (eO (gd p 0) [gd r 0,gd s 0,gd s 1,gd t 0]) (gd r 0).int (gd q 0) k ++ [y])=true:=fun y=>ci (by rw[i6];simp;omega)
    simp only[aA,bd,di hk,bu hk,g8,aG hk (show (eO (gd p 0) [gd r 0,gd s 0,gd s 1,gd t 0]).rows.length<=9223372036854775807 by omega),aU,O,u5];rw[pt];cases ltI (gd ((eO (gd p 0) [gd r 0,gd s 0,gd s 1,gd t 0]).rows.getD k []) 0).int (gd r 0).int <;> cases aC (gd q 0) (gd ((eO (gd p 0) [gd r 0,gd s 0,gd s 1,gd t 0]).rows.getD k []) 0).int <;> rfl
   ·show ji _ p q r s t [_,_,_,_,_,_,_,_,_,_,_,.i ((eO (gd p 0) [gd r 0,gd s 0,gd s 1,gd t 0]).rows.length:Int),_,_]=_;rw[ya];simp only[aA,ca]
abbrev sG:=find []
theorem Hi:av f8 sG:=al (fN)
abbrev sL:=[0,1,2,3,4,10]
def jn(N:Nat)(p:b8):b8->Out:=bb f8 sG N sL Tryz.f100 (.one (.c (.d (.sl 3)))) [⟨ag aR,p⟩] 0
theorem yr(N:Nat)(p:b8)(x0 x1 x2 x3 x4 x5 x6 x7 x8 x9 Y M y W a1 V a0 a2 J O Z U:D):(jn N p) [x0,x1,x2,x3,x4,x5,x6,x7,x8,x9,Y,M,y,W,a1,V,a0,a2,J,O,Z,U] =
 bif ltI y.int (J.rows.length:Int) then nd (ah y.int J.rows.length) (nd (bl (M.rows ++ [[gd (J.rows.getD y.int.toNat []) 0]])&&true) (nx [x0,x1,x2,x3,x4,x5,x6,x7,x8,x9,Y,.l (M.rows ++ [[gd (J.rows.getD y.int.toNat []) 0]]),.i (w64 (y.int+1)),W,a1,V,a0,a2,J,O,Z,U]))
 else ex 0 [x0,x1,x2,x3,x4,x5,x6,x7,x8,x9,Y,M,y,W,a1,V,a0,a2,J,O,Z,U]:=by kernel_rfl
theorem Ld(N:Nat)(p:b8):bf f8 sG N sL Tryz.f100 (.one (.c (.d (.sl 3)))) [⟨ag aR,p⟩]=some (bo,
 (let y:=aX (jn N p) N [gd p 0,gd p 1,gd p 2,gd p 3,gd p 4,gd p 5,gd p 6,gd p 7,gd p 8,.i 0,.l [],.l [],.i 0,gd p 0,gd p 1,gd p 2,gd p 3,gd p 4,gd p 5,gd p 6,gd p 7,gd p 8]
  nd y.isSome (nd (y.code==2) (some (1,[gd y.pay 11]))))):=by kernel_rfl
def sH:Ent:=(100,e1 (ag aR) fun p=>(⟨.one (.c (.d (.sl 3))),[aF (gd p 5)]⟩,leI ((gd p 5).rows.length:Int) 1000000000))
theorem wo:ay f8 sH:=cK fun p h=>au (N:=(gd p 5).rows.length+1) (ks:=sL) Hi Tryz.func100 fun hw=>by
 rw[Ld];have h:leI ((gd p 5).rows.length:Int) 1000000000=true:=h;simp only[leI,g5] at h;have e:=cJ (L:=jn ((gd p 5).rows.length+1) p) (fun k => [gd p 0,gd p 1,gd p 2,gd p 3,gd p 4,gd p 5,gd p 6,gd p 7,gd p 8,.i 0,.l [],.l (((gd p 5).rows.take k).map fun r => [gd r 0]),.i (k:Int),gd p 0,gd p 1,gd p 2,gd p 3,gd p 4,gd p 5,gd p 6,gd p 7,gd p 8]) (gd p 5).rows.length 0 (fun k hk=>?_) ?_ (N:=(gd p 5).rows.length+1) (by omega)
 ·simp only[j9,List.take_zero,I2,F1] at e;rw[e];rfl
 ·show jn _ p [_,_,_,_,_,_,_,_,_,_,_,.l (((gd p 5).rows.take k).map fun r => [gd r 0]),.i (k:Int),_,_,_,_,_,_,_,_,_]=_;rw[yr];have J:((gd p 5).rows.take (k+1)).map (fun r => [gd r 0])=((gd p 5).rows.take k).map (fun r => [gd r 0]) ++ [[gd ((gd p 5).rows.getD k []) 0]]:=by rw[List.take_succ_eq_append_getElem hk,y8,g4,g9 hk];rfl
  have y:bl (((gd p 5).rows.take k).map (fun r => [gd r 0]) ++ [[gd ((gd p 5).rows.getD k []) 0]])=true:=ci (by simp;omega);simp only[aA,bd,di hk,bu hk,aG hk (show (gd p 5).rows.length<=9223372036854775807 from by omega),g8];rw[y,J];rfl
 ·show jn _ p [_,_,_,_,_,_,_,_,_,_,_,_,.i ((gd p 5).rows.length:Int),_,_,_,_,_,_,_,_,_]=_;rw[yr];simp only[aA,ca]
abbrev NO:=find []
theorem Qa:av f8 NO:=al (fN)
abbrev Nb:=[0,2,3,4,6]
theorem Vq(N:Nat)(p:b8):bf f8 NO N Nb Tryz.f101 ri [⟨ri,p⟩]=some (bo,
 bif (gd p 0).int==2 then oi 5
 else bif (gd p 0).int==3 then oi 6
 else oi 0):=by kernel_rfl
def eT(p:b8):Int:=
 bif (gd p 0).int==2 then 5
 else bif (gd p 0).int==3 then 6
 else 0
def CF:Ent:=(101,e1 ri fun p=>(⟨ri,[.i (eT [gd p 0])]⟩,true))
theorem Fn:ay f8 CF:=cK fun p h=>au (N:=0) (ks:=Nb) Qa Tryz.func101 fun hw=>by
 rw[Vq]
 try simp only[er,ez,eo]
 rfl
set_option maxRecDepth 100000
set_option maxHeartbeats 4000000
open Go.RowKit Go.Lib
def mQ(x c:D):D:=.l (gE (fun r=>BY c (sub r 0 4)) x.rows)
def Sb:Ent:=(164,e2 (sd (.sl 93)) (.one (.c (.fn 254 [.cptr [.sl 3] 0]))) fun p q=>(⟨.tup [.agg [.any]],[mQ (gd p 0) (gd q 0)]⟩,true))
theorem Wa:ay f8 Sb:=bm fun p q h=>by
 refine aJ.ofK rfl ⟨cB Tryz.func164 (by kernel_rfl) (by kernel_rfl),fun e x rest row O Z b0 w prot u B vs hO hB a5 a2 b2=>?_⟩;injection O with O hre
 injection O with O hp
 injection O with O
 injection O with O
 injection O with O
 injection O with O
 subst O hre;have hx:gd p 0=x:=by rw[hp];rfl
 rw[show br f8 93=some (oF 4) from by kernel_rfl] at Z;injection Z with Z
 subst Z;obtain⟨f0,a7,U,a8,a3,a6⟩:∃f0,vs = #[f0]/\∃U:Array Value,f0=.func (.func 254) #[] U/\U.size=1/\∀y,aM w y B->(∃z,U[0]?=some z/\iV f8 y (g0 y.heap.size prot) y.heap.size [.sl 3] 0 (gd ((gd q 0).rows.getD 0 []) 0) z):=by
  have hg:=fun y (hC:aM w y B)=>(a2 y hC).2 0 _ rfl
  obtain⟨f0,h1,U,V,h3,h4⟩:=hg w (aM.refl w B);refine⟨f0,pX (a2 w (aM.refl w B)) [f0] rfl fun j t u' M hu=>?_,U,V,h3,fun y hC=>?_⟩
  ·match j,M with
   | 0,_=>rw[h1] at hu;injection hu with hu;rw[<- hu];rfl
  ·obtain⟨f1,k1,fb,k2,k3,k4⟩:=hg y hC;rw[h1] at k1;injection k1 with k1;subst k1;rw[V] at k2;injection k2 with _ _ k2;subst k2;exact k4 0 _ rfl
 subst a7 a8
 let C:b8->Bool:=fun r=>BY (gd q 0) (sub r 0 4)
 have a1:∀(y:World) (a0:Nat->Nat),(∀b o,o<prot b->o<a0 b)->aM w y B->∃z,U[0]?=some z/\iV f8 y (g0 y.heap.size a0) y.heap.size [.sl 3] 0 (gd ((gd q 0).rows.getD 0 []) 0) z:=by intro y a0 hP hC;obtain⟨z,h1,b,o,V,h3,h4⟩:=a6 y hC;refine⟨z,h1,b,o,V,h3,fun j s hs=>?_⟩;obtain⟨u',k1,k2⟩:=h4 j s hs;exact⟨u',k1,k2.mono fun b o _ h1 V=>⟨V,hP b o h1⟩⟩
 have b1:U.toList.length=1:=by simpa using a3
 have a4:=qr hO 254 U C (fun r=>rfl) (cB Tryz.func254) ?_ ?_
 ·show Calls _ _ #[u,.func (.func 254) #[] U] w fun ex w'=>∃v' B',ex=.returned v'/\aM w w' B/\eh w' _ _ (gE C (gd p 0).rows) v' B'/\_
  rw[hx];exact a4
 ·-- the search
  have hs:=afD [⟨sd (.sl 93),[x]⟩,⟨.one (.c (.fn 254 [.cptr [.sl 3] 0])),q⟩] ⟨ri,[.i (ixF (fun k=>C (x.rows.getD k [])) 0 x.rows.length)]⟩ rfl;have hs:=(hs.n rfl).2 w (fun b=>if B=some b then x.rows.length*4 else prot b) #[u,.func (.func 254) #[] U] ⟨rfl,fun j t M=>?_⟩ (fun b hb=>?_)
  ·refine hs.mono ?_;rintro ex w' ⟨v',g',rfl,hR⟩;have hv:VD f8 w' g'.prot (.int .i64) (.i (ixF (fun k=>C (x.rows.getD k [])) 0 x.rows.length)) v':=hR.val;cases hv;exact⟨rfl,hR.below⟩
  ·match j,M with
   | 0,M =>
    injection M with M;subst M
    refine⟨u,rfl,?_⟩;have:=Gk (P:=f8) (z:=x) (show br f8 93=some (oF 4) from by kernel_rfl) hO;exact this.mono fun b o z h1 V=>⟨V,by
     change o<(if B=some b then x.rows.length*4 else 0) at h1;show o<(if B=some b then x.rows.length*4 else prot b)
     split at h1
     ·rw[m6 ‹_›];exact h1
     ·omega⟩
   | 1,M =>
    injection M with M;subst M
    refine⟨_,rfl,U,rfl,a3,fun j c hc=>?_⟩
    match j,hc with
    | 0,hc =>
     injection hc with hc;subst hc
     exact a1 w _ (fun b o ho=>by show o<(if B=some b then x.rows.length*4 else prot b);rw[j7 (fun e=>by rw[hB b e] at ho;omega)];exact ho) (aM.refl w B)
  ·show (if B=some b then _ else prot b)=0;rw[j7 (fun e=>by have:=uC hO b e;omega)];exact a5 b hb
 ·intro y x0 x1 Y W hC;have hs:=yz [⟨ag dG,[.i x0,.i x1,.i Y,.i W]⟩,⟨.one (.c (.cptr [.sl 3] 0)),[gd ((gd q 0).rows.getD 0 []) 0]⟩] ⟨rb,[.b (C [.i x0,.i x1,.i Y,.i W])]⟩ rfl;have hs:=(hs.n rfl).2 y prot (#[.agg #[.int .i64 x0,.int .i64 x1,.int .i64 Y,.int .i64 W]]++U) ⟨by rw[D2,a3];rfl,fun j t M=>?_⟩ (fun b hb=>a5 b (m8 hC.size hb))
  ·refine hs.mono ?_;rintro ex w' ⟨v',g',rfl,hR⟩;have hv:VD f8 w' g'.prot .bool (.b (C [.i x0,.i x1,.i Y,.i W])) v':=hR.val;cases hv;exact⟨rfl,hR.below⟩
  ·match j,M with
   | 0,M =>
    injection M with M;subst M
    refine⟨.agg #[.int .i64 x0,.int .i64 x1,.int .i64 Y,.int .i64 W],v5 (xs:= #[Value.agg #[.int .i64 x0,.int .i64 x1,.int .i64 Y,.int .i64 W]]) (i:=0) (by show 0<1;omega),#[.int .i64 x0,.int .i64 x1,.int .i64 Y,.int .i64 W],rfl,rfl,fun j cc J=>?_⟩
    match j,J with
    | 0,J=>injection J with J;subst J;exact⟨_,rfl,.int .i64 (.i x0)⟩
    | 1,J=>injection J with J;subst J;exact⟨_,rfl,.int .i64 (.i x1)⟩
    | 2,J=>injection J with J;subst J;exact⟨_,rfl,.int .i64 (.i Y)⟩
    | 3,J=>injection J with J;subst J;exact⟨_,rfl,.int .i64 (.i W)⟩
   | 1,M =>
    injection M with M;subst M
    obtain⟨z,h1,V⟩:=a1 y prot (fun _ _ h=>h) hC;refine⟨z,?_,V⟩;exact (D7 (xs:= #[Value.agg #[.int .i64 x0,.int .i64 x1,.int .i64 Y,.int .i64 W]]) (i:=1) (by show 1<=1;omega)).trans h1
set_option maxRecDepth 4096
set_option maxHeartbeats 1000000
abbrev xQ:=find []
theorem PW:av f8 xQ:=al (fN)
abbrev yj:=[0,1,2,6,7,8,13,24]
def mj(N:Nat)(p q r:b8):b8->Out:=bb f8 xQ N yj Tryz.f144 (.one (.c (.own (0,0) true 93))) [⟨sd (.sl 93),p⟩,⟨ri,q⟩,⟨rb,r⟩] 0
theorem EP(N:Nat)(p q r:b8)(y M O U x4 J:D):(mj N p q r) [y,M,O,U,x4,J] =
 bif ltI J.int (y.rows.length:Int) then nd (ah J.int y.rows.length) (bif ((gd (y.rows.getD J.int.toNat []) 0).int==M.int)==O.bool then nd (ah J.int y.rows.length) (nd (bl (x4.rows ++ [sub (y.rows.getD J.int.toNat []) 0 4])&&true) (nx [y,M,O,U,.l (x4.rows ++ [sub (y.rows.getD J.int.toNat []) 0 4]),.i (w64 (J.int+1))]))
 else nx [y,M,O,U,x4,.i (w64 (J.int+1))])
 else ex 0 [y,M,O,U,x4,J]:=by kernel_rfl
theorem QK(N:Nat)(p q r:b8):bf f8 xQ N yj Tryz.f144 (.one (.c (.own (0,0) true 93))) [⟨sd (.sl 93),p⟩,⟨ri,q⟩,⟨rb,r⟩]=some (bo,
 (let y:=aX (mj N p q r) N [gd p 0,gd q 0,gd r 0,.l [],.l [],.i 0]
  nd y.isSome (nd (y.code==2) (some (1,[gd y.pay 4]))))):=by kernel_rfl
def IP:Ent:=(144,e3 (sd (.sl 93)) ri rb fun p q r=>(⟨.one (.c (.own (0,0) true 93)),[po (gd p 0) (gd q 0).int (gd r 0).bool]⟩,leI ((gd p 0).rows.length:Int) 1000000000))
theorem Rt:ay f8 IP:=gW fun p q r h=>au (N:=(gd p 0).rows.length+1) (ks:=yj) PW Tryz.func144 fun hw=>by
 rw[QK];have h:leI ((gd p 0).rows.length:Int) 1000000000=true:=h;have J:((gd p 0).rows.length:Int)<=1000000000:=i7 h;have e:=cJ (L:=mj ((gd p 0).rows.length+1) p q r) (fun k => [gd p 0,gd q 0,gd r 0,.l [],.l (kpL (fun k=>((gd ((gd p 0).rows.getD k []) 0).int==(gd q 0).int)==(gd r 0).bool) (fun k=>sub ((gd p 0).rows.getD k []) 0 4) k),.i (k:Int)]) (gd p 0).rows.length 0 (fun k hk=>?_) ?_ (N:=(gd p 0).rows.length+1) (by omega)
 ·simp only[j9] at e;rw[kpL] at e;rw[e];rfl
 ·show mj _ p q r [_,_,_,_,_,.i (k:Int)]=_;rw[EP];have y:=jy (fun k=>((gd ((gd p 0).rows.getD k []) 0).int==(gd q 0).int)==(gd r 0).bool) (fun k=>sub ((gd p 0).rows.getD k []) 0 4) k;simp only[aA,bd,di hk,bu hk,g8,aG hk (by omega),ci (show (kpL (fun k=>((gd ((gd p 0).rows.getD k []) 0).int==(gd q 0).int)==(gd r 0).bool) (fun k=>sub ((gd p 0).rows.getD k []) 0 4) k ++ [sub ((gd p 0).rows.getD k []) 0 4]).length<=4294967296 by rw[i6];show _+1<=_;omega)];simp only[kpL];cases ((gd ((gd p 0).rows.getD k []) 0).int==(gd q 0).int)==(gd r 0).bool <;> rfl
 ·show mj _ p q r [_,_,_,_,_,.i ((gd p 0).rows.length:Int)]=_;rw[EP];simp only[aA,ca]
set_option maxRecDepth 100000
set_option maxHeartbeats 4000000
theorem akl{P:Program}{prot:Nat->Nat}{w:World}{q r:b8}{M:Array Value}(h:lq P prot w [⟨ri,q⟩,⟨rb,r⟩] M):M = #[.int .i64 (gd q 0).int,.bool (gd r 0).bool]:=by
 refine pX h [.int .i64 (gd q 0).int,.bool (gd r 0).bool] rfl fun j t u h1 O=>?_
 obtain⟨U,y,J⟩:=h.2 j t h1;rw[O] at y;injection y with y;subst y
 match j,h1 with
 | 0,h1 =>
  injection h1 with h1;subst h1
  have:=vl (k:=.i64) (show VD P w prot (.int .i64) (gd q 0) u from J);rw[this];rfl
 | 1,h1 =>
  injection h1 with h1;subst h1
  have J:VD P w prot .bool (gd r 0) u:=J;cases J;rfl
def Jy:Ent:=(144,e3 (sd (.sl 93)) ri rb fun p q r=>(⟨.tup [.agg [.any]],[po (gd p 0) (gd q 0).int (gd r 0).bool]⟩,leI ((gd p 0).rows.length:Int) 1000000000))
theorem QW:ay f8 Jy:=gW fun p q r h=>by
 have h:leI ((gd p 0).rows.length:Int) 1000000000=true:=h;refine aJ.ofK rfl ⟨cB Tryz.func144 (by kernel_rfl) (by kernel_rfl),fun e x rest row y M a1 w prot u B vs Y hB V U a2=>?_⟩;injection y with y hre
 injection y with y hp
 injection y with y
 injection y with y
 injection y with y
 injection y with y
 subst y hp hre;rw[tI] at M;injection M with M
 subst M;have a0:=akl (U w (aM.refl w B));subst a0;obtain⟨n,hn⟩:=abp prot tI Y;have W:IP.2 [⟨sd (.sl 93),[x]⟩,⟨ri,q⟩,⟨rb,r⟩]=some (⟨.one (.c (.own (0,0) true 93)),[po x (gd q 0).int (gd r 0).bool]⟩,leI (x.rows.length:Int) 1000000000):=by kernel_rfl
 have h:leI (x.rows.length:Int) 1000000000=true:=h;rw[h] at W;have s:=(Rt _ _ W).n rfl;refine (s.2 w (fun b=>if B=some b then n else prot b) #[u,.int .i64 (gd q 0).int,.bool (gd r 0).bool] ⟨rfl,fun j t J=>?_⟩ fun b O=>?_).mono ?_
 ·match j,J with
  | 0,J =>
   injection J with J
   subst J;exact⟨u,rfl,hn⟩
  | 1,J =>
   injection J with J
   subst J;exact⟨_,rfl,.int .i64 _⟩
  | 2,J =>
   injection J with J
   subst J;exact⟨_,rfl,.bool _⟩
 ·rcases Y with⟨rfl,_⟩ | ⟨b',cap,arr,rfl,_,_,_,hh,_⟩
  ·rw[j7 (by simp)];exact V b O
  ·have:=aP hh;rw[j7 (by intro h;injection h with h;omega)];exact V b O
 ·rintro ex w' ⟨v,g',rfl,Z⟩;obtain⟨B',k1,k2⟩:=Xf tI Z;exact⟨v,B',rfl,.of_below B Z.below,k1,fun b O=>.inr (k2 b O)⟩
set_option maxRecDepth 4096
set_option maxHeartbeats 1000000
abbrev Pu:=find [ng,Ab,mJ,zD,nP,mq,JL,Sb,yC]
abbrev Mm:=[0,1,2,3,4,8,10,11,12,13,14,15,16,17,40,47,65,73]
def mf(N:Nat)(p q r s t:b8):List b8:= [[.i 0],[clA (gd p 0) [gd r 0,gd s 0,gd s 1,gd t 0]],[.l ((mQ (.l (gd p 0).rows) (.l [[.l [[clA (gd p 0) [gd r 0,gd s 0,gd s 1,gd t 0]]]]])).rows ++ [[gd r 0,gd s 0,gd s 1,gd t 0]])],[clA (gd p 0) [gd r 0,gd s 0,gd s 1,gd t 0]],[.l ((mQ (.l (gd p 0).rows) (.l [[.l [[clA (gd p 0) [gd r 0,gd s 0,gd s 1,gd t 0]]]]])).rows ++ [[gd r 0,gd s 0,gd s 1,gd t 0]])],[.l [[gd r 0,gd s 0,gd s 1,gd t 0]]],[gd r 0,gd s 0,gd s 1,gd t 0],[mQ (.l (gd p 0).rows) (.l [[.l [[clA (gd p 0) [gd r 0,gd s 0,gd s 1,gd t 0]]]]])],p,q,r,s,t,[.i 0],[.b (!(dn [gd t 0]))],[.l (gd p 0).rows],[.b (bV (gd p 0) (gd r 0) (sub s 0 2) (gd t 0))],[.i 0],[.i 0],[clW (gd p 0) (gd q 0) [gd r 0,gd s 0,gd s 1,gd t 0]],[.b (ltI 0 ((clW (gd p 0) (gd q 0) [gd r 0,gd s 0,gd s 1,gd t 0]).rows.length:Int))],[mQ (.l (gd p 0).rows) (.l [[.l [[clA (gd p 0) [gd r 0,gd s 0,gd s 1,gd t 0]]]]])],[.b (((mQ (.l (gd p 0).rows) (.l [[.l [[clA (gd p 0) [gd r 0,gd s 0,gd s 1,gd t 0]]]]])).rows.length:Int)==40)],[gd s 0,gd s 1],[gd r 0,gd s 0,gd s 1,gd t 0],[clA (gd p 0) [gd r 0,gd s 0,gd s 1,gd t 0]]]
theorem Uu(N:Nat)(p q r s t:b8):bf f8 Pu N Mm Tryz.f213 (.tup [.c (.own (0,0) true 93),.c (.own (0,1) true 3),.c (.d si)]) [⟨sd (.sl 93),p⟩,⟨sd (.sl 3),q⟩,⟨ri,r⟩,⟨ag aI,s⟩,⟨ri,t⟩]=some (bo,
 bif !(aY (gd p 0)) then some (1,[.l [],.l [],.i 1])
 else bif ltI 60 ((gd q 0).rows.length:Int) then some (1,[.l [],.l [],.i 1])
 else bif !(inB (gd r 0).int 1 60) then some (1,[.l [],.l [],.i 1])
 else bif !(ax (sub s 0 2)) then some (1,[.l [],.l [],.i 1])
 else bif !(dn [gd t 0]) then some (1,[.l [],.l [],.i 1])
 else nd (leI ((gd p 0).rows.length:Int) 2000000) (bif bV (gd p 0) (gd r 0) (sub s 0 2) (gd t 0) then some (1,[.l (gd p 0).rows,.l [],.i 0])
 else nd (leI ((gd p 0).rows.length:Int) 40000) (bif ltI 0 ((clW (gd p 0) (gd q 0) [gd r 0,gd s 0,gd s 1,gd t 0]).rows.length:Int) then some (1,[.l (gd p 0).rows,.l [],.i 2])
 else nd (leI ((gd p 0).rows.length:Int) 2000000) (bif ((mQ (.l (gd p 0).rows) (.l [[.l [[clA (gd p 0) [gd r 0,gd s 0,gd s 1,gd t 0]]]]])).rows.length:Int)==40 then some (1,[.l (gd p 0).rows,.l [],.i 3])
 else nd ((bl ((mQ (.l (gd p 0).rows) (.l [[.l [[clA (gd p 0) [gd r 0,gd s 0,gd s 1,gd t 0]]]]])).rows ++ [[gd r 0,gd s 0,gd s 1,gd t 0]])&&true)&&true) (nd (((bl ((mQ (.l (gd p 0).rows) (.l [[.l [[clA (gd p 0) [gd r 0,gd s 0,gd s 1,gd t 0]]]]])).rows ++ [[gd r 0,gd s 0,gd s 1,gd t 0]])&&true)&&true)&&(em (mf N p q r s t) (mf N p q r s t))) (nd (((bl ((mQ (.l (gd p 0).rows) (.l [[.l [[clA (gd p 0) [gd r 0,gd s 0,gd s 1,gd t 0]]]]])).rows ++ [[gd r 0,gd s 0,gd s 1,gd t 0]])&&true)&&true)&&(em (mf N p q r s t) (mf N p q r s t))) (some (1,[.l ((mQ (.l (gd p 0).rows) (.l [[.l [[clA (gd p 0) [gd r 0,gd s 0,gd s 1,gd t 0]]]]])).rows ++ [[gd r 0,gd s 0,gd s 1,gd t 0]]),clA (gd p 0) [gd r 0,gd s 0,gd s 1,gd t 0],.i 0])))))))):=by kernel_rfl
def bW(n:D)(a:b8)(m:D):b8:= [n,gd a 0,gd a 1,m]
def cO(l:D)(x:b8):D:=mQ (.l l.rows) (.l [[.l [[clA l x]]]])
def dB(l h n:D)(a:b8)(m:D):b8:=
 bif !(bN [l] [h] [n] (sub a 0 2) [m]) then[.l [],.l [],.i 1]
 else bif bV l n (sub a 0 2) m then[.l l.rows,.l [],.i 0]
 else bif ltI 0 ((clW l h (bW n a m)).rows.length:Int) then[.l l.rows,.l [],.i 2]
 else bif ((cO l (bW n a m)).rows.length:Int)==40 then[.l l.rows,.l [],.i 3]
 else[.l ((cO l (bW n a m)).rows ++ [bW n a m]),clA l (bW n a m),.i 0]
theorem un(l h n:D)(a:b8)(m:D):bN [l] [h] [n] a [m]=(aY l&&(leI (h.rows.length:Int) 60&&(inB n.int 1 60&&(ax (sub a 0 2)&&dn [m])))):=by unfold bN;show (bif aY l then bif leI (h.rows.length:Int) 60 then bif inB n.int 1 60 then bif ax (sub a 0 2) then dn [m] else false else false else false else false)=_;cases aY l <;> cases leI (h.rows.length:Int) 60 <;> cases inB n.int 1 60 <;> cases ax (sub a 0 2) <;> rfl
theorem ajp(a b:Int):ltI a b = !(leI b a):=by rw[y0];simp[ltI,leI]
theorem Si(C:b8->Bool):∀rows:List b8,(gE C rows).length<=rows.length:=fun rows=>by unfold gE;exact N0 _ _
def LM:Ent:=(213,e5 (sd (.sl 93)) (sd (.sl 3)) ri (ag aI) ri fun p q r s t=>(⟨.tup [.c (.own (0,0) true 93),.c (.own (0,1) true 3),.c (.d si)],sub (dB (gd p 0) (gd q 0) (gd r 0) s (gd t 0)) 0 3⟩,true))
theorem Vy:ay f8 LM:=abq fun p q r s t h=>au (N:=0) (ks:=Mm) (al (fC ⟨lP,fC ⟨tM,fC ⟨mv,fC ⟨yv,fC ⟨nO,fC ⟨mn,fC ⟨QE,fC ⟨Wa,fC ⟨xF,fN⟩⟩⟩⟩⟩⟩⟩⟩⟩)) Tryz.func213 fun hw=>by
 rw[Uu];refine congrArg (fun x=>some (bo,x)) ?_;unfold dB;rw[un,show sub (sub s 0 2) 0 2=sub s 0 2 from rfl,ajp 60];cases h1:aY (gd p 0) with
 | false=>rfl
 | true =>
  have hl:=((dU _).1 h1).2.2;cases leI ((gd q 0).rows.length:Int) 60 with
  | false=>rfl
  | true =>
   cases inB (gd r 0).int 1 60 with
   | false=>rfl
   | true =>
    cases ax (sub s 0 2) with
    | false=>rfl
    | true =>
     cases dn [gd t 0] with
     | false=>rfl
     | true =>
      simp only[n4,u5,f9,bi (show ((gd p 0).rows.length:Int)<=2000000 by omega),bi (show ((gd p 0).rows.length:Int)<=40000 by omega),aU];cases bV (gd p 0) (gd r 0) (sub s 0 2) (gd t 0) with
      | true=>rfl
      | false =>
       simp only[f9];rw[show ([gd r 0,gd s 0,gd s 1,gd t 0]:b8)=bW (gd r 0) s (gd t 0) from rfl];cases ltI 0 ((clW (gd p 0) (gd q 0) (bW (gd r 0) s (gd t 0))).rows.length:Int) with
       | true=>rfl
       | false =>
        simp only[f9];rw[show mQ (.l (gd p 0).rows) (.l [[.l [[clA (gd p 0) (bW (gd r 0) s (gd t 0))]]]])=cO (gd p 0) (bW (gd r 0) s (gd t 0)) from rfl];have hk:(cO (gd p 0) (bW (gd r 0) s (gd t 0))).rows.length<=(gd p 0).rows.length:=Si _ _;have y:bl ((cO (gd p 0) (bW (gd r 0) s (gd t 0))).rows ++ [bW (gd r 0) s (gd t 0)])=true:=ci (by rw[i6];simp;omega);cases ((cO (gd p 0) (bW (gd r 0) s (gd t 0))).rows.length:Int)==40 with
        | true=>rfl
        | false =>simp only[y,u5,bn,aU,f9];rfl
theorem Oc(a b:b8):cX a b=cX b a:=by
 have hm:eJ [gd a 1,gd a 2] [gd b 1,gd b 2]=eJ [gd b 1,gd b 2] [gd a 1,gd a 2]:=by show (bif ltI (gd a 1).int (gd b 2).int then ltI (gd b 1).int (gd a 2).int else false)=(bif ltI (gd b 1).int (gd a 2).int then ltI (gd a 1).int (gd b 2).int else false);cases ltI (gd a 1).int (gd b 2).int <;> cases ltI (gd b 1).int (gd a 2).int <;> rfl
 unfold cX;rw[hm,show ((gd a 0).int != (gd b 0).int)=((gd b 0).int != (gd a 0).int) from bne_comm];cases (gd b 0).int != (gd a 0).int <;> cases (gd a 3).int==2 <;> cases (gd b 3).int==2 <;> rfl
theorem Fk{l:D}{C y:b8->Bool}(h:∀r∈l.rows,C r=y r):∀k,k<=l.rows.length->dy l C k=dy l y k
 | 0,_=>rfl
 | k+1,hk=>by rw[dy,dy,Fk h k (by omega),h _ (by rw[aZ (show k<l.rows.length by omega)];exact v6 _)]
theorem BB(l:D)(C:b8->Bool)(y:∀r,C (nrm r)=C r):∀k,k<=l.rows.length->dy (.l (l.rows.map nrm)) C k=dy l C k
 | 0,_=>rfl
 | k+1,hk=>by
  have J:(D.l (l.rows.map nrm)).rows.getD k []=nrm (l.rows.getD k []):=by rw[bd,aZ (by rw[r9];omega),aZ (show k<l.rows.length by omega),J3]
  rw[dy,dy,BB l C y k (by omega),J,y];rfl
theorem ajq{l:D}{x:b8}(hl:aY l=true)(J:ax [gd x 1,gd x 2]=true):eO l x=clA l x:=by unfold eO clA;refine Fk (fun r y=>?_) _ (i8 _);have h1:=((dU l).1 hl).1 r y;simp only[rz,a9] at h1;unfold Rp ON;rw[GK (p:=sub r 0 4) (q:=sub x 0 4) h1.2.1 J];exact Oc _ _
theorem dS(z:D)(m:Int):m∈an z↔∃r∈z.rows,(gd r 0).int=m:=by simp[an]
theorem RY(f:D)(n:Int)(h:D):∀k,0<(pt f n h k).length↔∃j,j<k/\(ltI (gd (f.rows.getD j []) 0).int n||aC h (gd (f.rows.getD j []) 0).int)=true
 | 0=>by simp[pt]
 | k+1=>by
  have y:=RY f n h k;rw[pt];cases hc:ltI (gd (f.rows.getD k []) 0).int n||aC h (gd (f.rows.getD k []) 0).int with
  | true =>rw[g6];exact⟨fun _=>⟨k,by omega,hc⟩,fun _=>by rw[i6];simp⟩
  | false =>
   rw[f9,y];constructor
   ·rintro⟨j,J,h1⟩;exact⟨j,by omega,h1⟩
   ·rintro⟨j,J,h1⟩;by_cases e:j=k
    ·rw[e,hc] at h1;cases h1
    ·exact⟨j,by omega,h1⟩
theorem Yu(z:D):0<z.rows.length↔∃m,m∈an z:=by
 rw[<- cr];constructor
 ·intro h;exact⟨(an z)[0],v6 _⟩
 ·rintro⟨m,h⟩;exact List.length_pos_of_mem h
theorem Dp(l:D)(x:b8)(m:Int):m∈an (clA l x)↔∃r∈l.rows,cX x r=true/\(gd r 0).int=m:=by have:=(qJ l (ON x) l.rows.length (i8 _)).2 m;rw[F1] at this;exact this
theorem Tx(l h:D)(x:b8)(m:Int):m∈an (clW l h x)↔∃r∈l.rows,(cX x r&&(ltI (gd r 0).int (gd x 0).int||aC h (gd r 0).int))=true/\(gd r 0).int=m:=by have:=(qJ l (US h x) l.rows.length (i8 _)).2 m;rw[F1] at this;exact this
theorem aif(l h:D)(x:b8):ltI 0 ((pt (clA l x) (gd x 0).int h (clA l x).rows.length).length:Int)=ltI 0 ((clW l h x).rows.length:Int):=by
 have e:0<(pt (clA l x) (gd x 0).int h (clA l x).rows.length).length↔0<(clW l h x).rows.length:=by
  rw[RY,Yu];constructor
  ·rintro⟨j,J,hc⟩;have hm:(gd ((clA l x).rows.getD j []) 0).int∈an (clA l x):=(dS _ _).2 ⟨_,by rw[aZ J];exact v6 _,rfl⟩;obtain⟨r,M,h1,O⟩:=(Dp l x _).1 hm;rw[<- O] at hc;exact⟨_,(Tx l h x _).2 ⟨r,M,by rw[h1,hc];rfl,rfl⟩⟩
  ·rintro⟨m,hm⟩;obtain⟨r,M,h1,O⟩:=(Tx l h x m).1 hm;simp only[a9] at h1;obtain⟨y,U,V⟩:=(dS _ _).1 ((Dp l x _).2 ⟨r,M,h1.1,rfl⟩);obtain⟨j,J,rfl⟩:=t9 U;refine⟨j,J,?_⟩;rw[aZ J,V];exact h1.2
 rw[y0];simp only[ltI,g5];omega
def jd(f l:D):Nat->D
 | 0=>.l l.rows
 | k+1=>po (jd f l k) (gd (f.rows.getD k []) 0).int false
theorem HR(f l:D):∀k,k<=f.rows.length->(jd f l k).rows.map nrm=(l.rows.map nrm).filter fun r => !((f.rows.take k).any fun y=>(gd r 0).int==(gd y 0).int)
 | 0,_=>by show l.rows.map nrm=(l.rows.map nrm).filter _;exact (G4.2 fun r _=>by simp).symm
 | k+1,hk=>by
  rw[jd,GV,HR f l k (by omega),List.filter_filter,Aa (show k<f.rows.length by omega)];refine List.filter_congr fun r _=>?_
  rw[List.any_append];generalize (f.rows.take k).any (fun y=>(gd r 0).int==(gd y 0).int)=b;simp only[List.any_cons,List.any_nil,N5];cases b <;> cases (gd r 0).int==(gd (f.rows.getD k []) 0).int <;> rfl
theorem qe(l:D)(x:b8):(cO l x).rows=l.rows.filter fun r => !aC (clA l x) (gd r 0).int:=rfl
theorem We(l:D)(x:b8):(cO l x).rows.map nrm=(jd (clA l x) l (clA l x).rows.length).rows.map nrm:=by
 rw[HR _ _ _ (i8 _),F1,qe,K0];refine congrArg (List.map nrm) (List.filter_congr fun r _=>?_);show (!aC (clA l x) (gd r 0).int) = !((clA l x).rows.any fun y=>(gd r 0).int==(gd y 0).int);refine congrArg Bool.not ?_;rw[y0,fW,dS];simp only[D3,u7];constructor
 ·rintro⟨y,J,h⟩;exact⟨y,J,h.symm⟩
 ·rintro⟨y,J,h⟩;exact⟨y,J,h.symm⟩
theorem akr{l:D}{x:b8}(hl:aY l=true)(Z:rz x=true)(O:(((cO l x).rows.length:Int)==40)=false):aY (.l ((cO l x).rows ++ [x]))=true:=by
 obtain⟨h1,V,h3⟩:=(dU l).1 hl;have Y:(cO l x).rows.length<=l.rows.length:=Si _ _;have O:¬((cO l x).rows.length:Int)=40:=by simpa using O
 rw[qe] at *;refine (dU _).2 ⟨fun r y=>?_,G1.2 ⟨V.filter _,List.pairwise_singleton _ _,fun a U b W=>?_⟩,?_⟩
 ·rcases n3.1 y with y | y
  ·exact h1 r (B7.1 y).1
  ·rw[y5.1 y];exact Z
 ·rw[y5.1 W];obtain⟨M,J⟩:=B7.1 U;cases hc:cX x a with
  | false=>rfl
  | true =>have:aC (clA l x) (gd a 0).int=true:=(fW _ _).2 ((Dp l x _).2 ⟨a,M,hc,rfl⟩);rw[this] at J;cases J
 ·rw[bd,i6];simp only[n9];omega
abbrev BI:=find [zn,oA,Bl,Cp,Jy]
abbrev Cj:=[0,1,2,3,4,8,10,11,12,13,14,15,16,17,18,26,36,46,63,74,5012014]
def nQ(N:Nat)(p q r s t:b8):b8->Out:=bb f8 BI N Cj Tryz.f99 (.tup [.c (.own (0,0) true 93),.c (.d (.sl 3)),.c (.d si)]) [⟨sd (.sl 93),p⟩,⟨sd (.sl 3),q⟩,⟨ri,r⟩,⟨ag aI,s⟩,⟨ri,t⟩] 0
theorem Jh(N:Nat)(p q r s t:b8)(x0 x1 x2 x3 x4 x5 x6 x7 x8 x9 a2 W U a1 a4 y M J a0 V a3 Z Y O:D):(nQ N p q r s t) [x0,x1,x2,x3,x4,x5,x6,x7,x8,x9,a2,W,U,a1,a4,y,M,J,a0,V,a3,Z,Y,O] =
 bif ltI J.int (y.rows.length:Int) then nd (ah J.int y.rows.length) (nd (leI (M.rows.length:Int) 1000000000) (nx [x0,x1,x2,x3,x4,x5,x6,x7,x8,x9,a2,W,U,a1,a4,y,po M (gd (y.rows.getD J.int.toNat []) 0).int false,.i (w64 (J.int+1)),a0,V,a3,Z,Y,O]))
 else ex 0 [x0,x1,x2,x3,x4,x5,x6,x7,x8,x9,a2,W,U,a1,a4,y,M,J,a0,V,a3,Z,Y,O]:=by kernel_rfl
theorem Vf(N:Nat)(p q r s t:b8):bf f8 BI N Cj Tryz.f99 (.tup [.c (.own (0,0) true 93),.c (.d (.sl 3)),.c (.d si)]) [⟨sd (.sl 93),p⟩,⟨sd (.sl 3),q⟩,⟨ri,r⟩,⟨ag aI,s⟩,⟨ri,t⟩]=some (bo,
 bif !(bN [gd p 0] [gd q 0] [gd r 0] (sub s 0 2) [gd t 0]) then some (1,[.l [],.l [],.i 1])
 else nd (bl ([]++(gd p 0).rows)&&true) (bif holds (gd p 0) (gd r 0) (sub s 0 2) (gd t 0) then some (1,[.l ([]++(gd p 0).rows),.l [],.i 0])
 else bif ltI 0 ((qZ (gd p 0) (gd q 0) (gd r 0) (sub s 0 2) (gd t 0)).rows.length:Int) then some (1,[.l ([]++(gd p 0).rows),.l [],.i 2])
 else nd (leI ((gd p 0).rows.length:Int) 40000) ((let y:=aX (nQ N p q r s t) N [gd p 0,gd q 0,gd r 0,gd s 0,gd s 1,gd t 0,.i 0,.l [],.l [],.i 0,.l [],.b (!(bN [gd p 0] [gd q 0] [gd r 0] (sub s 0 2) [gd t 0])),.b (holds (gd p 0) (gd r 0) (sub s 0 2) (gd t 0)),.b (ltI 0 ((qZ (gd p 0) (gd q 0) (gd r 0) (sub s 0 2) (gd t 0)).rows.length:Int)),.i 0,eO (gd p 0) [gd r 0,gd s 0,gd s 1,gd t 0],.l ([]++(gd p 0).rows),.i 0,gd s 0,gd s 1,gd r 0,gd s 0,gd s 1,gd t 0]
  nd y.isSome (nd (y.code==2) (bif ((gd y.pay 16).rows.length:Int)==40 then nd (bl ([]++(gd y.pay 0).rows)&&true) (some (1,[.l ([]++(gd y.pay 0).rows),gd y.pay 10,.i 3]))
  else nd (bl ((gd y.pay 16).rows ++ [sub y.pay 20 4])&&true) (some (1,[.l ((gd y.pay 16).rows ++ [sub y.pay 20 4]),gd y.pay 15,.i 0])))))))):=by kernel_rfl
def ed(l h n:D)(a:b8)(m:D):b8:=
 bif !(bN [l] [h] [n] (sub a 0 2) [m]) then[.l [],.l [],.i 1]
 else bif holds l n (sub a 0 2) m then[.l l.rows,.l [],.i 0]
 else bif ltI 0 ((qZ l h n (sub a 0 2) m).rows.length:Int) then[.l l.rows,.l [],.i 2]
 else bif ((jd (eO l (bW n a m)) l (eO l (bW n a m)).rows.length).rows.length:Int)==40 then[.l l.rows,.l [],.i 3]
 else[.l ((jd (eO l (bW n a m)) l (eO l (bW n a m)).rows.length).rows ++ [bW n a m]),eO l (bW n a m),.i 0]
theorem zy(f l:D):∀k,(jd f l k).rows.length<=l.rows.length
 | 0=>i8 _
 | k+1=>m8 (zH (jd f l k) (gd (f.rows.getD k []) 0).int false) (zy f l k)
def vJ:Ent:=(99,e5 (sd (.sl 93)) (sd (.sl 3)) ri (ag aI) ri fun p q r s t=>(⟨.tup [.c (.own (0,0) true 93),.c (.d (.sl 3)),.c (.d si)],sub (ed (gd p 0) (gd q 0) (gd r 0) s (gd t 0)) 0 3⟩,true))
theorem vH:ay f8 vJ:=abq fun p q r s t h=>au (N:=(eO (gd p 0) (bW (gd r 0) s (gd t 0))).rows.length+1) (ks:=Cj) (al (fC ⟨AH,fC ⟨nD,fC ⟨Km,fC ⟨Gj,fC ⟨QW,fN⟩⟩⟩⟩⟩)) Tryz.func99 fun hw=>by
 rw[Vf];refine congrArg (fun x=>some (bo,x)) ?_;unfold ed;cases y:bN [gd p 0] [gd q 0] [gd r 0] (sub s 0 2) [gd t 0] with
 | false=>rfl
 | true =>
  have hl:=zI y;simp only[n4,f9,F0,bi (show ((gd p 0).rows.length:Int)<=40000 by omega),ci (show (gd p 0).rows.length<=4294967296 by omega),u5,aU];cases V:holds (gd p 0) (gd r 0) (sub s 0 2) (gd t 0) with
  | true=>rfl
  | false =>
   simp only[f9];cases M:ltI 0 ((qZ (gd p 0) (gd q 0) (gd r 0) (sub s 0 2) (gd t 0)).rows.length:Int) with
   | true=>rfl
   | false =>
    simp only[f9];rw[show ([gd r 0,gd s 0,gd s 1,gd t 0]:b8)=bW (gd r 0) s (gd t 0) from rfl];have U:(eO (gd p 0) (bW (gd r 0) s (gd t 0))).rows.length<=40:=m8 (je (gd p 0) (Rp (bW (gd r 0) s (gd t 0))) (gd p 0).rows.length) hl;generalize O:eO (gd p 0) (bW (gd r 0) s (gd t 0))=F at *;have e:=cJ (L:=nQ (F.rows.length+1) p q r s t) (fun k => [gd p 0,gd q 0,gd r 0,gd s 0,gd s 1,gd t 0,.i 0,.l [],.l [],.i 0,.l [],.b false,.b false,.b false,.i 0,F,jd F (gd p 0) k,.i (k:Int),gd s 0,gd s 1,gd r 0,gd s 0,gd s 1,gd t 0]) F.rows.length 0 (fun k hk=>?_) ?_ (N:=F.rows.length+1) (by omega)
    ·simp only[j9] at e;rw[show jd F (gd p 0) 0=.l (gd p 0).rows from rfl] at e;rw[Ut e]
     case e=>rfl
     have hk:=zy F (gd p 0) F.rows.length;show nd true (nd true (bif ((jd F (gd p 0) F.rows.length).rows.length:Int)==40 then nd (bl (gd p 0).rows&&true) (some (1,[.l (gd p 0).rows,.l [],.i 3])) else nd (bl ((jd F (gd p 0) F.rows.length).rows ++ [bW (gd r 0) s (gd t 0)])&&true) (some (1,[.l ((jd F (gd p 0) F.rows.length).rows ++ [bW (gd r 0) s (gd t 0)]),F,.i 0]))))=_;rw[ci (show (gd p 0).rows.length<=4294967296 by omega),ci (show ((jd F (gd p 0) F.rows.length).rows ++ [bW (gd r 0) s (gd t 0)]).length<=4294967296 by rw[i6];simp;omega)];cases ((jd F (gd p 0) F.rows.length).rows.length:Int)==40 <;> rfl
    ·show nQ _ p q r s t [_,_,_,_,_,_,_,_,_,_,_,_,_,_,_,_,_,.i (k:Int),_,_,_,_,_,_]=_;rw[Jh];have J:=zy F (gd p 0) k;simp only[aA,di hk,bu hk,g8,aG hk (show F.rows.length<=9223372036854775807 by omega),bi (show ((jd F (gd p 0) k).rows.length:Int)<=1000000000 by omega),aU];rfl
    ·show nQ _ p q r s t [_,_,_,_,_,_,_,_,_,_,_,_,_,_,_,_,_,.i (F.rows.length:Int),_,_,_,_,_,_]=_;rw[Jh];simp only[aA,ca]
theorem Yd{l h n:D}{a:b8}(J:bN [l] [h] [n] (sub a 0 2) [.i 2]=true) :
  gd (ed l h n a (.i 2)) 2=gd (dB l h n a (.i 2)) 2/\gd (ed l h n a (.i 2)) 1=gd (dB l h n a (.i 2)) 1/\(gd (ed l h n a (.i 2)) 0).rows.map nrm=(gd (dB l h n a (.i 2)) 0).rows.map nrm:=by
 have y:=J;rw[un] at y;simp only[a9] at y;have hl:aY l=true:=y.1;have O:ax (sub a 0 2)=true:=y.2.2.2.1;have M:eO l (bW n a (.i 2))=clA l (bW n a (.i 2)):=ajq hl O;have hw:ltI 0 ((qZ l h n (sub a 0 2) (.i 2)).rows.length:Int)=(!holds l n (sub a 0 2) (.i 2)&&ltI 0 ((clW l h (bW n a (.i 2))).rows.length:Int)):=by
  unfold qZ;rw[show bN [l] [h] [n] (sub (sub a 0 2) 0 2) [.i 2]=true from J,show sub (sub a 0 2) 0 2=sub a 0 2 from rfl];cases holds l n (sub a 0 2) (.i 2) with
  | true=>rfl
  | false =>rw[n4,f9,f9,show ([n,gd (sub a 0 2) 0,gd (sub a 0 2) 1,.i 2]:b8)=bW n a (.i 2) from rfl,M];exact aif l h (bW n a (.i 2))
 have hk:(jd (clA l (bW n a (.i 2))) l (clA l (bW n a (.i 2))).rows.length).rows.length=(cO l (bW n a (.i 2))).rows.length:=by have:=congrArg List.length (We l (bW n a (.i 2)));rw[r9,r9] at this;exact this.symm
 unfold ed dB;rw[J,hw,M,hk,<- zJ (tx:=n) hl O];cases holds l n (sub a 0 2) (.i 2) with
 | true=>exact⟨rfl,rfl,rfl⟩
 | false =>
  cases ltI 0 ((clW l h (bW n a (.i 2))).rows.length:Int) with
  | true=>exact⟨rfl,rfl,rfl⟩
  | false =>
   cases ((cO l (bW n a (.i 2))).rows.length:Int)==40 with
   | true=>exact⟨rfl,rfl,rfl⟩
   | false =>refine⟨rfl,rfl,?_⟩;show ((jd (clA l (bW n a (.i 2))) l (clA l (bW n a (.i 2))).rows.length).rows ++ [bW n a (.i 2)]).map nrm=((cO l (bW n a (.i 2))).rows ++ [bW n a (.i 2)]).map nrm;rw[y8,y8,<- We]
theorem ahn{l h n:D}{a:b8}(M:bN [l] [h] [n] (sub a 0 2) [.i 2]=true):aY (gd (dB l h n a (.i 2)) 0)=true:=by
 have J:=M;rw[un] at J;simp only[a9] at J;obtain⟨hl,_,U,O,hm⟩:=J;have y:aY (.l l.rows)=true:=hl;unfold dB;rw[M];cases bV l n (sub a 0 2) (.i 2) with
 | true=>exact y
 | false =>
  cases ltI 0 ((clW l h (bW n a (.i 2))).rows.length:Int) with
  | true=>exact y
  | false =>
   cases hc:((cO l (bW n a (.i 2))).rows.length:Int)==40 with
   | true=>exact y
   | false =>refine akr hl ?_ hc;simp only[rz,a9];exact⟨U,O,hm⟩
abbrev nl(l:D):D:=.l (l.rows.map nrm)
theorem vT(l:D):aY (nl l)=aY l:=by
 rw[y0,dU,dU];constructor
 ·rintro⟨h1,y,J⟩;refine⟨fun r M=>h1 (nrm r) (List.mem_map_of_mem M),?_,by rw[bd,r9] at J;exact J⟩;have y:(l.rows.map nrm).Pairwise (fun a b=>cX b a=false):=y;rw[List.pairwise_map] at y;exact y
 ·rintro⟨h1,y,J⟩;refine⟨fun r M=>?_,?_,by rw[bd,r9];exact J⟩
  ·obtain⟨U,O,rfl⟩:=A8.1 M;exact h1 U O
  ·show (l.rows.map nrm).Pairwise (fun a b=>cX b a=false);rw[List.pairwise_map];exact y
theorem acB(l:D){k:Nat}(hk:k<l.rows.length):(nl l).rows.getD k []=nrm (l.rows.getD k []):=by rw[bd,aZ (by rw[r9];exact hk),aZ hk,J3]
theorem akC(l:D){C:b8->Bool}(y:∀r,C (nrm r)=C r):eL C (nl l)=eL C l:=by
 unfold eL;rw[bd,r9,y0];simp only[D3,m7];constructor
 ·rintro⟨k,hk,h⟩;refine⟨k,hk,?_⟩;have e:=acB l hk;rw[bd] at e;rw[e,y] at h;exact h
 ·rintro⟨k,hk,h⟩;refine⟨k,hk,?_⟩;have e:=acB l hk;rw[bd] at e;rw[e,y];exact h
theorem Tr(l n:D)(a:b8)(m:D):bV (nl l) n a m=bV l n a m:=by unfold bV;rw[vT,akC l (C:=fun r=>qo (.l [[.l [[n]],.l [[m]],.l [sub a 0 2]]]) (sub r 0 4)) fun r=>rfl]
theorem afU(l:D)(x:b8):clA (nl l) x=clA l x:=by unfold clA;rw[show (nl l).rows.length=l.rows.length from r9 ..];exact BB l (ON x) (fun r=>rfl) _ (i8 _)
theorem alY(l h:D)(x:b8):clW (nl l) h x=clW l h x:=by unfold clW;rw[show (nl l).rows.length=l.rows.length from r9 ..];exact BB l (US h x) (fun r=>rfl) _ (i8 _)
theorem acy(l:D)(x:b8):(cO (nl l) x).rows=(cO l x).rows.map nrm:=by rw[qe,qe,afU,bd,K0];rfl
theorem agf(l h n:D)(a:b8)(m:D):bN [nl l] [h] [n] a [m]=bN [l] [h] [n] a [m]:=by rw[un,un,vT]
theorem aiY(l h n:D)(a:b8)(m:D) :
  gd (dB (nl l) h n a m) 2=gd (dB l h n a m) 2/\gd (dB (nl l) h n a m) 1=gd (dB l h n a m) 1/\(gd (dB (nl l) h n a m) 0).rows.map nrm=(gd (dB l h n a m) 0).rows.map nrm:=by
 have y:∀z:List b8,(z.map nrm).map nrm=z.map nrm:=fun z=>by rw[D6];rfl
 have hk:(cO (nl l) (bW n a m)).rows.length=(cO l (bW n a m)).rows.length:=by rw[acy,r9]
 unfold dB;rw[agf,Tr,alY,afU,hk];cases bN [l] [h] [n] (sub a 0 2) [m] with
 | false=>exact⟨rfl,rfl,rfl⟩
 | true =>
  cases bV l n (sub a 0 2) m with
  | true=>exact⟨rfl,rfl,y _⟩
  | false =>
   cases ltI 0 ((clW l h (bW n a m)).rows.length:Int) with
   | true=>exact⟨rfl,rfl,y _⟩
   | false =>
    cases ((cO l (bW n a m)).rows.length:Int)==40 with
    | true=>exact⟨rfl,rfl,y _⟩
    | false =>refine⟨rfl,rfl,?_⟩;show ((cO (nl l) (bW n a m)).rows ++ [bW n a m]).map nrm=((cO l (bW n a m)).rows ++ [bW n a m]).map nrm;rw[y8,y8,acy,y]
theorem acu{l y:D}(e:l.rows.map nrm=y.rows.map nrm)(h n:D)(a:b8)(m:D) :
  gd (dB l h n a m) 2=gd (dB y h n a m) 2/\gd (dB l h n a m) 1=gd (dB y h n a m) 1/\(gd (dB l h n a m) 0).rows.map nrm=(gd (dB y h n a m) 0).rows.map nrm:=by
 obtain⟨J,M,O⟩:=aiY l h n a m;obtain⟨U,V,W⟩:=aiY y h n a m;have:nl l=nl y:=by unfold nl;rw[e]
 rw[this] at J M O;exact⟨J.symm.trans U,M.symm.trans V,O.symm.trans W⟩
theorem YI{l y:D}(e:l.rows.map nrm=y.rows.map nrm):aY l=aY y:=by rw[<- vT l,<- vT y];unfold nl;rw[e]
theorem RV(l w z:D):∀k,(gh l w z k).1.rows.map nrm=(jd z l k).rows.map nrm/\(gh l w z k).2=mA w z k
 | 0=>⟨rfl,rfl⟩
 | k+1=>by
  obtain⟨h1,y⟩:=RV l w z k;rw[gh,jd,mA];refine⟨?_,?_⟩
  ·show (po (gh l w z k).1 (gd (z.rows.getD k []) 0).int false).rows.map nrm=_;rw[GV,GV,h1]
  ·show bQ (gh l w z k).2 (gd (z.rows.getD k []) 0)=_;rw[y]
theorem abg{f l:D}(h:∀r∈l.rows,aC f (gd r 0).int=false):(jd f l f.rows.length).rows.map nrm=l.rows.map nrm:=by
 rw[HR _ _ _ (i8 _),F1];refine G4.2 fun r U=>?_
 obtain⟨r0,M,rfl⟩:=A8.1 U;have:=h r0 M;cases hc:f.rows.any fun y=>(gd (nrm r0) 0).int==(gd y 0).int with
 | false=>rfl
 | true =>
  obtain⟨y,O,J⟩:=D3.1 hc;have J:(gd (nrm r0) 0).int=(gd y 0).int:=by simpa using J
  have J:(gd r0 0).int=(gd y 0).int:=J;rw[(fW f (gd r0 0).int).2 ((dS _ _).2 ⟨y,O,J.symm⟩)] at this;cases this
theorem YN{x r:b8}(h:cX x r=true):(gd r 0).int≠(gd x 0).int:=by intro e;unfold cX at h;rw[show ((gd x 0).int != (gd r 0).int)=false from by rw[e];simp] at h;cases h
theorem aiF(l h n:D)(a:b8)(m:D):∀r∈(gd (dB l h n a m) 0).rows,aC (gd (dB l h n a m) 1) (gd r 0).int=false:=by
 have M:∀v,aC (.l []) v=false:=fun v=>rfl
 unfold dB;cases bN [l] [h] [n] (sub a 0 2) [m] with
 | false=>exact fun r J=>M _
 | true =>
  cases bV l n (sub a 0 2) m with
  | true=>exact fun r J=>M _
  | false =>
   cases ltI 0 ((clW l h (bW n a m)).rows.length:Int) with
   | true=>exact fun r J=>M _
   | false =>
    cases ((cO l (bW n a m)).rows.length:Int)==40 with
    | true=>exact fun r J=>M _
    | false =>
     intro r J;have J:r∈(cO l (bW n a m)).rows ++ [bW n a m]:=J;show aC (clA l (bW n a m)) (gd r 0).int=false;rcases n3.1 J with J | J
     ·rw[qe] at J;have:=(B7.1 J).2;simpa using this
     ·rw[y5.1 J];cases hc:aC (clA l (bW n a m)) (gd (bW n a m) 0).int with
      | false=>rfl
      | true =>obtain⟨y,_,h1,O⟩:=(Dp l (bW n a m) _).1 ((fW _ _).1 hc);exact absurd O (YN h1)
theorem Zv{z tx:D}{a:b8}(hz:aY z=true)(M:ax a=true):holds z tx a (.i 1)=bV z tx a (.i 1):=by
 unfold holds bV;rw[hz,M,y7,y7,show dn [.i 1]=true from rfl,y7];unfold eL;refine Sk fun k hk=>?_
 obtain⟨h1,y⟩:=XG hz hk;show oI (z.rows.getD k []) tx a (.i 1)=fg (sub (z.rows.getD k []) 0 4) [.l [[tx]]] [.l [[.i 1]]] [.l [sub a 0 2]];have e:fg (sub (z.rows.getD k []) 0 4) [.l [[tx]]] [.l [[.i 1]]] [.l [sub a 0 2]]=(bif (gd (z.rows.getD k []) 0).int==tx.int then bif (gd (z.rows.getD k []) 3).int==1 then bif leI (gd (z.rows.getD k []) 1).int (gd a 0).int then leI (gd a 1).int (gd (z.rows.getD k []) 2).int else false else bif (gd (z.rows.getD k []) 3).int==2 then bif leI (gd (z.rows.getD k []) 1).int (gd a 0).int then leI (gd a 1).int (gd (z.rows.getD k []) 2).int else false else false else false):=rfl;rw[e];unfold oI gK;rw[show ax (sub a 0 2)=ax a from rfl,M,show ax (sub [gd (z.rows.getD k []) 1,gd (z.rows.getD k []) 2] 0 2)=ax [gd (z.rows.getD k []) 1,gd (z.rows.getD k []) 2] from rfl,h1];simp only[g6,aq,ap,aA];have y:(bif (gd (z.rows.getD k []) 3).int==1 then true else (gd (z.rows.getD k []) 3).int==2)=true:=y;have hm:leI 1 (gd (z.rows.getD k []) 3).int=true:=by
  cases J:(gd (z.rows.getD k []) 3).int==1
  ·rw[J,f9] at y;rw[eq_of_beq y];rfl
  ·rw[eq_of_beq J];rfl
 rw[hm];cases J:(gd (z.rows.getD k []) 3).int==1
 ·rw[J,f9] at y;rw[y];cases (gd (z.rows.getD k []) 0).int==tx.int <;> cases leI (gd (z.rows.getD k []) 1).int (gd a 0).int <;> cases leI (gd a 1).int (gd (z.rows.getD k []) 2).int <;> rfl
 ·cases (gd (z.rows.getD k []) 0).int==tx.int <;> cases (gd (z.rows.getD k []) 3).int==2 <;> cases leI (gd (z.rows.getD k []) 1).int (gd a 0).int <;> cases leI (gd a 1).int (gd (z.rows.getD k []) 2).int <;> rfl
abbrev sb:=find [mJ]
abbrev rU:=[0,1,2]
theorem Al(N:Nat)(p:b8):bf f8 sb N rU Tryz.f107 rb [⟨ag aI,p⟩]=some (bo,
 ob (!(ax (sub p 0 2)))):=by kernel_rfl
def iU(p:b8):Bool:=
 !(ax (sub p 0 2))
def ln:Ent:=(107,e1 (ag aI) fun p=>(⟨rb,[.b (iU p)]⟩,true))
theorem px:ay f8 ln:=cK fun p h=>au (N:=0) (ks:=rU) (al (fC ⟨mv,fN⟩)) Tryz.func107 fun hw=>by
 rw[Al]
 try simp only[er,ez,eo]
 rfl
abbrev TY:=find [ln]
abbrev Vz:=[0,1,4,5,7,8,9,16]
def wX(N:Nat)(p q:b8):b8->Out:=bb f8 TY N Vz Tryz.f207 ri [⟨sd (.sl 41),p⟩,⟨.one (.c (.fn 107 [])),q⟩] 0
theorem Wu(N:Nat)(p q:b8)(y M O J x4:D):(wX N p q) [y,M,O,J,x4] =
 bif ltI x4.int J.int then nd (ah x4.int y.rows.length) (bif iU (sub (y.rows.getD x4.int.toNat []) 0 2) then some (1,[x4])
 else nx [y,M,O,J,.i (w64 (x4.int+1))])
 else ex 0 [y,M,O,J,x4]:=by kernel_rfl
theorem adB(N:Nat)(p q:b8):bf f8 TY N Vz Tryz.f207 ri [⟨sd (.sl 41),p⟩,⟨.one (.c (.fn 107 [])),q⟩]=some (bo,
 (let y:=aX (wX N p q) N [gd p 0,gd q 0,.i 0,.i ((gd p 0).rows.length:Int),.i 0]
  nd y.isSome (bif y.code==1 then some (1,y.pay)
  else nd (y.code==2) (oi (-1))))):=by kernel_rfl
def jK(c:D)(r:b8):Bool:=iU r
def aby:Ent:=(207,e2 (sd (.sl 41)) (.one (.c (.fn 107 []))) fun p q=>(⟨ri,[.i (ixF (fun k=>jK (gd q 0) (sub ((gd p 0).rows.getD k []) 0 2)) 0 (gd p 0).rows.length)]⟩,true))
theorem aeE:ay f8 aby:=bm fun p q h=>au (N:=(gd p 0).rows.length+1) (ks:=Vz) (al (fC ⟨px,fN⟩)) Tryz.func207 fun hw=>by
 rw[adB];have hl:=fi (hw ⟨sd (.sl 41),p⟩ (by simp));have e:=iq (L:=wX ((gd p 0).rows.length+1) p q) (fun k => [gd p 0,gd q 0,.i 0,.i ((gd p 0).rows.length:Int),.i (k:Int)]) (gd p 0).rows.length (fun k=>jK (gd q 0) (sub ((gd p 0).rows.getD k []) 0 2)) [gd p 0,gd q 0,.i 0,.i ((gd p 0).rows.length:Int),.i ((gd p 0).rows.length:Int)] (fun k hk=>?_) ?_ (gd p 0).rows.length 0 ((gd p 0).rows.length+1) (by omega) (by omega)
 ·simp only[j9] at e;rw[e];have y:=gT (fun k=>jK (gd q 0) (sub ((gd p 0).rows.getD k []) 0 2)) (gd p 0).rows.length 0;cases J:decide (ixF (fun k=>jK (gd q 0) (sub ((gd p 0).rows.getD k []) 0 2)) 0 (gd p 0).rows.length>=0)
  ·rw[y J];rfl
  ·rfl
 ·show wX _ p q [_,_,_,_,.i (k:Int)]=_;rw[Wu];simp only[aA,di hk,bu hk,aG hk hl,g8];unfold jK;cases iU (sub ((gd p 0).rows.getD k []) 0 2)  <;> rfl
 ·show wX _ p q [_,_,_,.i ((gd p 0).rows.length:Int),.i ((gd p 0).rows.length:Int)]=_;rw[Wu];simp only[aA,ca]
abbrev acQ:=find [aby,ln]
abbrev acn:=[0,1,4]
theorem aeD(N:Nat)(p q:b8):bf f8 acQ N acn Tryz.f106 rb [⟨sd (.sl 41),p⟩,⟨.one (.c (.fn 107 [])),q⟩]=some (bo,
 ob (leI 0 (ixF (fun k=>jK (.l [[]]) (sub ((gd p 0).rows.getD k []) 0 2)) 0 (gd p 0).rows.length))):=by kernel_rfl
def acI:Ent:=(106,e2 (sd (.sl 41)) (.one (.c (.fn 107 []))) fun p q=>(⟨rb,[.b (eL (fun y=>jK (gd q 0) (sub y 0 2)) (gd p 0))]⟩,true))
theorem adl:ay f8 acI:=bm fun p q h=>au (N:=0) (ks:=acn) (al (fC ⟨aeE,fC ⟨px,fN⟩⟩)) Tryz.func106 fun hw=>by rw[aeD];refine congrArg (fun x=>some (bo,ob x)) ?_;exact (kq (fun k=>jK (gd q 0) (sub ((gd p 0).rows.getD k []) 0 2)) (gd p 0).rows.length 0).trans (by simp only[m0];rfl)
abbrev AC:=find [mq]
abbrev Bn:=[0,1,2,3,4]
theorem La(N:Nat)(p q r:b8):bf f8 AC N Bn Tryz.f210 rb [⟨ag aI,p⟩,⟨.one (.c (.cptr [si,.sl 41,.sl 41,.sl 108,.sl 93,.sl 75,.sl 3,.sl 3,si] 0)),q⟩,⟨.one (.c (.cptr [si] 0)),r⟩]=some (bo,
 ob (!(bV (gd ((gd q 0).rows.getD 0 []) 4) (gd ((gd r 0).rows.getD 0 []) 0) (sub p 0 2) (.i 1)))):=by kernel_rfl
def nz(p q r:b8):Bool:=
 !(bV (gd ((gd q 0).rows.getD 0 []) 4) (gd ((gd r 0).rows.getD 0 []) 0) (sub p 0 2) (.i 1))
def tf:Ent:=(210,e3 (ag aI) (.one (.c (.cptr [si,.sl 41,.sl 41,.sl 108,.sl 93,.sl 75,.sl 3,.sl 3,si] 0))) (.one (.c (.cptr [si] 0))) fun p q r=>(⟨rb,[.b (nz p [gd q 0] [gd r 0])]⟩,true))
theorem wM:ay f8 tf:=gW fun p q r h=>au (N:=0) (ks:=Bn) (al (fC ⟨mn,fN⟩)) Tryz.func210 fun hw=>by
 rw[La]
 try simp only[er,ez,eo]
 rfl
abbrev Tk:=find [tf]
abbrev UZ:=[0,1,4,5,7,8,9,16]
def yS(N:Nat)(p q:b8):b8->Out:=bb f8 Tk N UZ Tryz.f207 ri [⟨sd (.sl 41),p⟩,⟨.one (.c (.fn 210 [.cptr [si,.sl 41,.sl 41,.sl 108,.sl 93,.sl 75,.sl 3,.sl 3,si] 0,.cptr [si] 0])),q⟩] 0
theorem XS(N:Nat)(p q:b8)(y J O M x4:D):(yS N p q) [y,J,O,M,x4] =
 bif ltI x4.int M.int then nd (ah x4.int y.rows.length) (bif nz (sub (y.rows.getD x4.int.toNat []) 0 2) [gd (J.rows.getD 0 []) 0] [gd (J.rows.getD 0 []).tail 0] then some (1,[x4])
 else nx [y,J,O,M,.i (w64 (x4.int+1))])
 else ex 0 [y,J,O,M,x4]:=by kernel_rfl
theorem adn(N:Nat)(p q:b8):bf f8 Tk N UZ Tryz.f207 ri [⟨sd (.sl 41),p⟩,⟨.one (.c (.fn 210 [.cptr [si,.sl 41,.sl 41,.sl 108,.sl 93,.sl 75,.sl 3,.sl 3,si] 0,.cptr [si] 0])),q⟩]=some (bo,
 (let y:=aX (yS N p q) N [gd p 0,gd q 0,.i 0,.i ((gd p 0).rows.length:Int),.i 0]
  nd y.isSome (bif y.code==1 then some (1,y.pay)
  else nd (y.code==2) (oi (-1))))):=by kernel_rfl
def kp(c:D)(r:b8):Bool:=nz r [gd (c.rows.getD 0 []) 0] [gd (c.rows.getD 0 []).tail 0]
def abY:Ent:=(207,e2 (sd (.sl 41)) (.one (.c (.fn 210 [.cptr [si,.sl 41,.sl 41,.sl 108,.sl 93,.sl 75,.sl 3,.sl 3,si] 0,.cptr [si] 0]))) fun p q=>(⟨ri,[.i (ixF (fun k=>kp (gd q 0) (sub ((gd p 0).rows.getD k []) 0 2)) 0 (gd p 0).rows.length)]⟩,true))
theorem adP:ay f8 abY:=bm fun p q h=>au (N:=(gd p 0).rows.length+1) (ks:=UZ) (al (fC ⟨wM,fN⟩)) Tryz.func207 fun hw=>by
 rw[adn];have hl:=fi (hw ⟨sd (.sl 41),p⟩ (by simp));have e:=iq (L:=yS ((gd p 0).rows.length+1) p q) (fun k => [gd p 0,gd q 0,.i 0,.i ((gd p 0).rows.length:Int),.i (k:Int)]) (gd p 0).rows.length (fun k=>kp (gd q 0) (sub ((gd p 0).rows.getD k []) 0 2)) [gd p 0,gd q 0,.i 0,.i ((gd p 0).rows.length:Int),.i ((gd p 0).rows.length:Int)] (fun k hk=>?_) ?_ (gd p 0).rows.length 0 ((gd p 0).rows.length+1) (by omega) (by omega)
 ·simp only[j9] at e;rw[e];have y:=gT (fun k=>kp (gd q 0) (sub ((gd p 0).rows.getD k []) 0 2)) (gd p 0).rows.length 0;cases J:decide (ixF (fun k=>kp (gd q 0) (sub ((gd p 0).rows.getD k []) 0 2)) 0 (gd p 0).rows.length>=0)
  ·rw[y J];rfl
  ·rfl
 ·show yS _ p q [_,_,_,_,.i (k:Int)]=_;rw[XS];simp only[aA,di hk,bu hk,aG hk hl,g8];unfold kp;cases nz (sub ((gd p 0).rows.getD k []) 0 2) [gd ((gd q 0).rows.getD 0 []) 0] [gd ((gd q 0).rows.getD 0 []).tail 0] <;> rfl
 ·show yS _ p q [_,_,_,.i ((gd p 0).rows.length:Int),.i ((gd p 0).rows.length:Int)]=_;rw[XS];simp only[aA,ca]
abbrev abv:=find [abY,tf]
abbrev abH:=[0,1,4]
theorem adF(N:Nat)(p q:b8):bf f8 abv N abH Tryz.f106 rb [⟨sd (.sl 41),p⟩,⟨.one (.c (.fn 210 [.cptr [si,.sl 41,.sl 41,.sl 108,.sl 93,.sl 75,.sl 3,.sl 3,si] 0,.cptr [si] 0])),q⟩]=some (bo,
 ob (leI 0 (ixF (fun k=>kp (.l [[gd ((gd q 0).rows.getD 0 []) 0,gd ((gd q 0).rows.getD 0 []).tail 0]]) (sub ((gd p 0).rows.getD k []) 0 2)) 0 (gd p 0).rows.length))):=by kernel_rfl
def abB:Ent:=(106,e2 (sd (.sl 41)) (.one (.c (.fn 210 [.cptr [si,.sl 41,.sl 41,.sl 108,.sl 93,.sl 75,.sl 3,.sl 3,si] 0,.cptr [si] 0]))) fun p q=>(⟨rb,[.b (eL (fun y=>kp (gd q 0) (sub y 0 2)) (gd p 0))]⟩,true))
theorem adW:ay f8 abB:=bm fun p q h=>au (N:=0) (ks:=abH) (al (fC ⟨adP,fC ⟨wM,fN⟩⟩)) Tryz.func106 fun hw=>by rw[adF];refine congrArg (fun x=>some (bo,ob x)) ?_;exact (kq (fun k=>kp (gd q 0) (sub ((gd p 0).rows.getD k []) 0 2)) (gd p 0).rows.length 0).trans (by simp only[m0];rfl)
abbrev Au:=find [NC,acq]
abbrev AE:=[0,1,2,3]
theorem Kw(N:Nat)(p q:b8):bf f8 Au N AE Tryz.f212 rb [⟨ag Lw,p⟩,⟨.one (.c (.cptr [si,.sl 41,.sl 41,.sl 108,.sl 93,.sl 75,.sl 3,.sl 3,si] 0)),q⟩]=some (bo,
 ob (!(RE (sub ((gd q 0).rows.getD 0 []) 0 9) [gd p 0,.i (w64 ((gd p 0).int+1))]))):=by kernel_rfl
def nN(p q:b8):Bool:=
 !(RE (sub ((gd q 0).rows.getD 0 []) 0 9) [gd p 0,.i (w64 ((gd p 0).int+1))])
def ta:Ent:=(212,e2 (ag Lw) (.one (.c (.cptr [si,.sl 41,.sl 41,.sl 108,.sl 93,.sl 75,.sl 3,.sl 3,si] 0))) fun p q=>(⟨rb,[.b (nN p [gd q 0])]⟩,true))
theorem wE:ay f8 ta:=bm fun p q h=>au (N:=0) (ks:=AE) (al (fC ⟨DD,fC ⟨adu,fN⟩⟩)) Tryz.func212 fun hw=>by
 rw[Kw]
 try simp only[er,ez,eo]
 rfl
abbrev UP:=find [ta]
abbrev UB:=[0,1,4,5,7,8,9,16]
def yV(N:Nat)(p q:b8):b8->Out:=bb f8 UP N UB Tryz.f252 ri [⟨sd (.sl 70),p⟩,⟨.one (.c (.fn 212 [.cptr [si,.sl 41,.sl 41,.sl 108,.sl 93,.sl 75,.sl 3,.sl 3,si] 0])),q⟩] 0
theorem WR(N:Nat)(p q:b8)(y J O M x4:D):(yV N p q) [y,J,O,M,x4] =
 bif ltI x4.int M.int then nd (ah x4.int y.rows.length) (bif nN (sub (y.rows.getD x4.int.toNat []) 0 2) [gd (J.rows.getD 0 []) 0] then some (1,[x4])
 else nx [y,J,O,M,.i (w64 (x4.int+1))])
 else ex 0 [y,J,O,M,x4]:=by kernel_rfl
theorem adz(N:Nat)(p q:b8):bf f8 UP N UB Tryz.f252 ri [⟨sd (.sl 70),p⟩,⟨.one (.c (.fn 212 [.cptr [si,.sl 41,.sl 41,.sl 108,.sl 93,.sl 75,.sl 3,.sl 3,si] 0])),q⟩]=some (bo,
 (let y:=aX (yV N p q) N [gd p 0,gd q 0,.i 0,.i ((gd p 0).rows.length:Int),.i 0]
  nd y.isSome (bif y.code==1 then some (1,y.pay)
  else nd (y.code==2) (oi (-1))))):=by kernel_rfl
def kz(c:D)(r:b8):Bool:=nN r [gd (c.rows.getD 0 []) 0]
def abF:Ent:=(252,e2 (sd (.sl 70)) (.one (.c (.fn 212 [.cptr [si,.sl 41,.sl 41,.sl 108,.sl 93,.sl 75,.sl 3,.sl 3,si] 0]))) fun p q=>(⟨ri,[.i (ixF (fun k=>kz (gd q 0) (sub ((gd p 0).rows.getD k []) 0 2)) 0 (gd p 0).rows.length)]⟩,true))
theorem adQ:ay f8 abF:=bm fun p q h=>au (N:=(gd p 0).rows.length+1) (ks:=UB) (al (fC ⟨wE,fN⟩)) Tryz.func252 fun hw=>by
 rw[adz];have hl:=fi (hw ⟨sd (.sl 70),p⟩ (by simp));have e:=iq (L:=yV ((gd p 0).rows.length+1) p q) (fun k => [gd p 0,gd q 0,.i 0,.i ((gd p 0).rows.length:Int),.i (k:Int)]) (gd p 0).rows.length (fun k=>kz (gd q 0) (sub ((gd p 0).rows.getD k []) 0 2)) [gd p 0,gd q 0,.i 0,.i ((gd p 0).rows.length:Int),.i ((gd p 0).rows.length:Int)] (fun k hk=>?_) ?_ (gd p 0).rows.length 0 ((gd p 0).rows.length+1) (by omega) (by omega)
 ·simp only[j9] at e;rw[e];have y:=gT (fun k=>kz (gd q 0) (sub ((gd p 0).rows.getD k []) 0 2)) (gd p 0).rows.length 0;cases J:decide (ixF (fun k=>kz (gd q 0) (sub ((gd p 0).rows.getD k []) 0 2)) 0 (gd p 0).rows.length>=0)
  ·rw[y J];rfl
  ·rfl
 ·show yV _ p q [_,_,_,_,.i (k:Int)]=_;rw[WR];simp only[aA,di hk,bu hk,aG hk hl,g8];unfold kz;cases nN (sub ((gd p 0).rows.getD k []) 0 2) [gd ((gd q 0).rows.getD 0 []) 0] <;> rfl
 ·show yV _ p q [_,_,_,.i ((gd p 0).rows.length:Int),.i ((gd p 0).rows.length:Int)]=_;rw[WR];simp only[aA,ca]
abbrev abS:=find [abF,ta]
abbrev abr:=[0,1,4]
theorem adU(N:Nat)(p q:b8):bf f8 abS N abr Tryz.f211 rb [⟨sd (.sl 70),p⟩,⟨.one (.c (.fn 212 [.cptr [si,.sl 41,.sl 41,.sl 108,.sl 93,.sl 75,.sl 3,.sl 3,si] 0])),q⟩]=some (bo,
 ob (leI 0 (ixF (fun k=>kz (.l [[gd ((gd q 0).rows.getD 0 []) 0]]) (sub ((gd p 0).rows.getD k []) 0 2)) 0 (gd p 0).rows.length))):=by kernel_rfl
def act:Ent:=(211,e2 (sd (.sl 70)) (.one (.c (.fn 212 [.cptr [si,.sl 41,.sl 41,.sl 108,.sl 93,.sl 75,.sl 3,.sl 3,si] 0]))) fun p q=>(⟨rb,[.b (eL (fun y=>kz (gd q 0) (sub y 0 2)) (gd p 0))]⟩,true))
theorem aej:ay f8 act:=bm fun p q h=>au (N:=0) (ks:=abr) (al (fC ⟨adQ,fC ⟨wE,fN⟩⟩)) Tryz.func211 fun hw=>by rw[adU];refine congrArg (fun x=>some (bo,ob x)) ?_;exact (kq (fun k=>kz (gd q 0) (sub ((gd p 0).rows.getD k []) 0 2)) (gd p 0).rows.length 0).trans (by simp only[m0];rfl)
abbrev IQ:=find [abb,abB,act]
abbrev JZ:=[0,1,2,3,4,5,8,9,14,19,23]
theorem Rc(N:Nat)(p q r s:b8):bf f8 IQ N JZ Tryz.f111 ri [⟨ag aR,p⟩,⟨ri,q⟩,⟨sd (.sl 41),r⟩,⟨sd (.sl 70),s⟩]=some (bo,
 bif aC (gd p 7) (gd q 0).int then oi 2
 else bif aC (gd p 6) (gd q 0).int then oi 3
 else bif eL (fun y=>kp (.l [[.l [sub p 0 9],.l [[gd q 0]]]]) (sub y 0 2)) (gd r 0) then oi 7
 else bif eL (fun y=>kz (.l [[.l [sub p 0 9]]]) (sub y 0 2)) (gd s 0) then oi 4
 else oi 0):=by kernel_rfl
def rV(p q r s:b8):Int:=
 bif aC (gd p 7) (gd q 0).int then 2
 else bif aC (gd p 6) (gd q 0).int then 3
 else bif eL (fun y=>kp (.l [[.l [sub p 0 9],.l [[gd q 0]]]]) (sub y 0 2)) (gd r 0) then 7
 else bif eL (fun y=>kz (.l [[.l [sub p 0 9]]]) (sub y 0 2)) (gd s 0) then 4
 else 0
def IX:Ent:=(111,e4 (ag aR) ri (sd (.sl 41)) (sd (.sl 70)) fun p q r s=>(⟨ri,[.i (rV p [gd q 0] [gd r 0] [gd s 0])]⟩,true))
theorem QQ:ay f8 IX:=Bc fun p q r s h=>au (N:=0) (ks:=JZ) (al (fC ⟨He,fC ⟨adW,fC ⟨aej,fN⟩⟩⟩)) Tryz.func111 fun hw=>by
 rw[Rc]
 try simp only[er,ez,eo]
 rfl
def ia(p:b8)(tx z:D):Bool:=(List.range z.rows.length).all fun k=>holds (gd p 4) tx (sub (z.rows.getD k []) 0 2) (.i 1)
def iF(p:b8)(z:D):Bool:=(List.range z.rows.length).all fun k=>tU p [gd (z.rows.getD k []) 0,.i (w64 ((gd (z.rows.getD k []) 0).int+1))]
theorem Tw(n:Nat){C E:Nat->Bool}(h:∀k,k<n->C k = !E k):(List.range n).any C = !(List.range n).all E:=by
 rw[y0];simp only[D3,m7,o8,List.all_eq_false,G8];constructor
 ·rintro⟨k,hk,hc⟩;rw[h k hk] at hc;exact⟨k,hk,by simpa using hc⟩
 ·rintro⟨k,hk,hc⟩;exact⟨k,hk,by rw[h k hk,hc];rfl⟩
theorem Sn{p:b8}{tx z:D}(hl:aY (gd p 4)=true)(hz:∀k,k<z.rows.length->ax (sub (z.rows.getD k []) 0 2)=true) :
  eL (fun y=>kp (.l [[.l [sub p 0 9],.l [[tx]]]]) (sub y 0 2)) z = !ia p tx z:=by
 unfold eL ia;refine Tw _ fun k hk=>?_
 rw[Zv hl (hz k hk)];rfl
theorem Ss{p:b8}{z:D}(h1:bB (gd p 1)=true)(y:bB (gd p 2)=true)(hz:∀k,k<z.rows.length->ax [gd (z.rows.getD k []) 0,.i (w64 ((gd (z.rows.getD k []) 0).int+1))]=true) :
  eL (fun J=>kz (.l [[.l [sub p 0 9]]]) (sub J 0 2)) z = !iF p z:=by
 unfold eL iF;refine Tw _ fun k hk=>?_
 rw[afj h1 y (hz k hk)];rfl
abbrev cS(u:D)(k:Nat):b8:= [gd (u.rows.getD k []) 0,.i (w64 ((gd (u.rows.getD k []) 0).int+1))]
def dm(p:b8)(n u:D):Nat->D × D
 | 0=>(.l (gd p 4).rows,.l (gd p 6).rows)
 | k+1=>gh (gd (ed (dm p n u k).1 (aF (gd p 5)) n (cS u k) (.i 2)) 0) (dm p n u k).2 (gd (ed (dm p n u k).1 (aF (gd p 5)) n (cS u k) (.i 2)) 1) (gd (ed (dm p n u k).1 (aF (gd p 5)) n (cS u k) (.i 2)) 1).rows.length
def iD(p:b8)(n u:D)(k:Nat):D:=gd (ed (dm p n u k).1 (aF (gd p 5)) n (cS u k) (.i 2)) 2
def hS(h n:D)(v:b8):Nat->List b8 × Bool
 | 0=>([],false)
 | k+1=>bif !(hS h n v k).2&&ltI n.int (gd (h.rows.getD k []) 0).int then ((hS h n v k).1 ++ [v] ++ [sub (h.rows.getD k []) 0 2],true) else ((hS h n v k).1 ++ [sub (h.rows.getD k []) 0 2],(hS h n v k).2)
def JK(h n:D)(v:b8):D:=bif !(hS h n v h.rows.length).2 then .l ((hS h n v h.rows.length).1 ++ [v]) else .l (hS h n v h.rows.length).1
def qq(p:b8)(n z u:D):Bool:=aW (sub p 0 9)&&(inB n.int 1 60&&(leI (z.rows.length:Int) 16&&aL u))
def nA(z:D):Bool:=(List.range z.rows.length).all fun k=>ax (sub (z.rows.getD k []) 0 2)
def Kb(p:b8)(u:D):Bool:=ltI 60 (w64 (w64 (((gd p 3).rows.length:Int)+eI (gd p 3) (gd p 5) (gd p 5).rows.length)+bk (gd p 3) u))
def aeJ(p:b8)(n u:D):b8:=
 bif Kb p u then dpS p ++ [.i 6]
 else[gd (dpS p) 0,gd (dpS p) 1,gd (dpS p) 2,gd (dpS p) 3,(dm p n u u.rows.length).1,JK (gd (dpS p) 5) n [n,.l u.rows],(dm p n u u.rows.length).2,gd (dpS p) 7,gd (dpS p) 8,.i 0]
def prS(p:b8)(n z u:D):b8:=
 bif !(qq p n z u&&nA z) then jI ++ [.i 1]
 else bif aC (gd p 7) n.int then dpS p ++ [.i 2]
 else bif ii (gd p 5) n.int then dpS p ++ [.i 0]
 else bif aC (gd p 6) n.int then dpS p ++ [.i 3]
 else bif ia p n z then bif iF p u then
  match (List.range u.rows.length).find? (fun k=>(iD p n u k).int != 0) with
  | some k=>dpS p ++ [.i (eT [iD p n u k])]
  | none=>aeJ p n u
 else dpS p ++ [.i 4] else dpS p ++ [.i 7]
theorem EM(l h n:D)(a:b8)(m:D):(gd (ed l h n a m) 0).rows.length<=41/\(gd (ed l h n a m) 1).rows.length<=40:=by
 unfold ed;cases J:bN [l] [h] [n] (sub a 0 2) [m] with
 | false=>exact⟨n5 _,n5 _⟩
 | true =>
  have hl:=zI J;cases holds l n (sub a 0 2) m with
  | true=>exact⟨by show l.rows.length<=41;omega,n5 _⟩
  | false =>
   cases ltI 0 ((qZ l h n (sub a 0 2) m).rows.length:Int) with
   | true=>exact⟨by show l.rows.length<=41;omega,n5 _⟩
   | false =>
    have y:(eO l (bW n a m)).rows.length<=40:=m8 (je l (Rp (bW n a m)) l.rows.length) hl;have hk:=zy (eO l (bW n a m)) l (eO l (bW n a m)).rows.length;cases ((jd (eO l (bW n a m)) l (eO l (bW n a m)).rows.length).rows.length:Int)==40 with
    | true=>exact⟨by show l.rows.length<=41;omega,n5 _⟩
    | false =>refine⟨?_,y⟩;show ((jd (eO l (bW n a m)) l (eO l (bW n a m)).rows.length).rows ++ [bW n a m]).length<=41;rw[i6,n9];omega
theorem Ip(p:b8)(n u:D)(y:(gd p 4).rows.length<=40):∀k,(dm p n u k).1.rows.length<=41/\(dm p n u k).2.rows.length<=(gd p 6).rows.length+40*k
 | 0=>⟨by show (gd p 4).rows.length<=41;omega,i8 _⟩
 | k+1=>by obtain⟨_,O⟩:=Ip p n u y k;obtain⟨M,U⟩:=EM (dm p n u k).1 (aF (gd p 5)) n (cS u k) (.i 2);obtain⟨J,V⟩:=vR (gd (ed (dm p n u k).1 (aF (gd p 5)) n (cS u k) (.i 2)) 0) (dm p n u k).2 (gd (ed (dm p n u k).1 (aF (gd p 5)) n (cS u k) (.i 2)) 1) (gd (ed (dm p n u k).1 (aF (gd p 5)) n (cS u k) (.i 2)) 1).rows.length;rw[dm];omega
theorem VF(h n:D)(v:b8):∀k,(hS h n v k).1.length<=2*k
 | 0=>i8 _
 | k+1=>by have y:=VF h n v k;rw[hS];cases !(hS h n v k).2&&ltI n.int (gd (h.rows.getD k []) 0).int <;> simp <;> omega
theorem aeN{L:b8->Out}(st:Bool->Nat->b8)(n:Nat)(C:Nat->Bool)(j:Nat)(h1:∀k,k<n->L (st true k)=some (0,st (C k) (k+1)))(J:∀k,L (st false k)=some (j+2,st false k))(M:L (st true n)=some (j+2,st true n)) :
  ∀(m k N:Nat) (b:Bool),k+m=n->m<N->∃i,aX L N (st b k)=some (j+2,st (b&&(List.range' k m).all C) i):=by
 intro m
 induction m with
 | zero =>
  intro k N b hk U;obtain⟨N,rfl⟩:∃y,N=y+1:=⟨N - 1,by omega⟩;obtain rfl:k=n:=by omega
  cases b with
  | true=>exact⟨k,lZ (c:=j+1) M⟩
  | false=>exact⟨k,lZ (c:=j+1) (J k)⟩
 | succ m O =>
  intro k N b hk U;obtain⟨N,rfl⟩:∃y,N=y+1:=⟨N - 1,by omega⟩;cases b with
  | false=>exact⟨k,lZ (c:=j+1) (J k)⟩
  | true =>rw[rR (h1 k (by omega)),N3,N4,y7];exact O (k+1) N (C k) (by omega) (by omega)
abbrev pyA(p q r s:b8)(b:Bool):b8:= [gd p 0,gd p 1,gd p 2,gd p 3,gd p 4,gd p 5,gd p 6,gd p 7,gd p 8,gd q 0,gd r 0,gd s 0,.i 0,.i 0,.i 0,.b b,gd p 0,gd p 1,gd p 2,gd p 3,gd p 4,gd p 5,gd p 6,gd p 7,gd p 8,.i 0,.l [],.l [],.l [],.l [],.l [],.l [],.l [],.i 0]
abbrev py0(p q r s:b8)(b:Bool)(i:D):b8:= [gd p 0,gd p 1,gd p 2,gd p 3,gd p 4,gd p 5,gd p 6,gd p 7,gd p 8,gd q 0,gd r 0,gd s 0,.i 0,.i 0,.i 0,.b b,i,gd p 0,gd p 1,gd p 2,gd p 3,gd p 4,gd p 5,gd p 6,gd p 7,gd p 8,.i 0,.l [],.l [],.l [],.l [],.l [],.l [],.l [],.i 0]
abbrev py3(p q r s:b8)(b:Bool)(i j:D):b8:= [gd p 0,gd p 1,gd p 2,gd p 3,gd p 4,gd p 5,gd p 6,gd p 7,gd p 8,gd q 0,gd r 0,gd s 0,.i 0,.i 0,.i 0,.b b,i,.b (!b),.i 0,j,gd p 0,gd p 1,gd p 2,gd p 3,gd p 4,gd p 5,gd p 6,gd p 7,gd p 8,.i 0,.l [],.l [],.l [],.l [],.l [],.l [],.l [],.i 0,gd (dpS p) 0,gd (dpS p) 1,gd (dpS p) 2,gd (dpS p) 3,gd (dpS p) 4,gd (dpS p) 5,gd (dpS p) 6,gd (dpS p) 7,gd (dpS p) 8]
abbrev py5(p q r s:b8)(b:Bool)(i j k:D):b8:= [gd p 0,gd p 1,gd p 2,gd p 3,gd p 4,gd p 5,gd p 6,gd p 7,gd p 8,gd q 0,gd r 0,gd s 0,.i 0,.i 0,.i 0,.b b,i,.b (!b),.i 0,j,k,gd p 0,gd p 1,gd p 2,gd p 3,gd p 4,gd p 5,gd p 6,gd p 7,gd p 8,.i 0,.l [],.l [],.l [],.l [],.l [],.l [],.l [],.i 0,gd (dpS p) 0,gd (dpS p) 1,gd (dpS p) 2,gd (dpS p) 3,gd (dpS p) 4,gd (dpS p) 5,gd (dpS p) 6,gd (dpS p) 7,gd (dpS p) 8]
abbrev py7(p q r s:b8)(b:Bool)(i j k m l w:D):b8:= [gd p 0,gd p 1,gd p 2,gd p 3,gd p 4,gd p 5,gd p 6,gd p 7,gd p 8,gd q 0,gd r 0,gd s 0,.i 0,.i 0,.i 0,.b b,i,.b (!b),.i 0,j,k,.i 0,m,gd p 0,gd p 1,gd p 2,gd p 3,gd p 4,gd p 5,gd p 6,gd p 7,gd p 8,.i 0,.l [],.l [],.l [],.l [],.l [],.l [],.l [],.i 0,gd (dpS p) 0,gd (dpS p) 1,gd (dpS p) 2,gd (dpS p) 3,gd (dpS p) 4,gd (dpS p) 5,gd (dpS p) 6,gd (dpS p) 7,gd (dpS p) 8,gd (dpS p) 0,gd (dpS p) 1,gd (dpS p) 2,gd (dpS p) 3,l,gd (dpS p) 5,w,gd (dpS p) 7,gd (dpS p) 8]
abbrev py9(p q r s:b8)(b:Bool)(i j k m l w:D)(h:List b8)(t:Bool)(c:D):b8:= [gd p 0,gd p 1,gd p 2,gd p 3,gd p 4,gd p 5,gd p 6,gd p 7,gd p 8,gd q 0,gd r 0,gd s 0,.i 0,.i 0,.i 0,.b b,i,.b (!b),.i 0,j,k,.i 0,m,.b (Kb p (gd s 0)),.l h,.b t,.l (gd s 0).rows,.i 0,c,gd p 0,gd p 1,gd p 2,gd p 3,gd p 4,gd p 5,gd p 6,gd p 7,gd p 8,.i 0,.l [],.l [],.l [],.l [],.l [],.l [],.l [],.i 0,gd (dpS p) 0,gd (dpS p) 1,gd (dpS p) 2,gd (dpS p) 3,gd (dpS p) 4,gd (dpS p) 5,gd (dpS p) 6,gd (dpS p) 7,gd (dpS p) 8,gd (dpS p) 0,gd (dpS p) 1,gd (dpS p) 2,gd (dpS p) 3,l,gd (dpS p) 5,w,gd (dpS p) 7,gd (dpS p) 8,gd q 0,.l (gd s 0).rows]
set_option maxHeartbeats 4000000
set_option maxHeartbeats 1000000
abbrev ZO:=find [qm,LM,sm,yC]
abbrev aay:=[0,1,2,3,6,8,9,10,11,13,31,32,34,40,41,42,43]
abbrev d0:List Ce:=[.d si,.own (1000000,1) true 41,.own (1000000,2) true 41,.own (1000000,3) true 108,.own (1000000,4) true 93,.own (1000000,1000005) true 75,.own (1000000,6) true 3,.own (1000000,7) true 3,.d si]
def Dt(N:Nat)(p q r s:b8):b8->Out:=vC f8 ZO N aay Tryz.f112 (.tup [.agg [.any],.agg b9,.c (.d si)]) [⟨.tup [.agg d0],p⟩,⟨ri,q⟩,⟨ag aI,r⟩,⟨ri,s⟩] 1
theorem acH(N:Nat)(p q r s:b8)(x0 x1 x2 x3 x4 x5 x6 x7 x8 x9 a1 J O y a3 W a2 a4 a0 V M Z Y U a5:D):(Dt N p q r s) [x0,x1,x2,x3,x4,x5,x6,x7,x8,x9,a1,J,O,y,a3,W,a2,a4,a0,V,M,Z,Y,U,a5] =
 bif ltI y.int O.int then nd (ah y.int J.rows.length) (nd (lK M&&leI (M.rows.length:Int) 40000) (nx [x0,x1,x2,x3,x4,x5,x6,x7,x8,x9,a1,J,O,.i (w64 (y.int+1)),a3,W,a2,a4,a0,V,bQ M (gd (J.rows.getD y.int.toNat []) 0),Z,Y,U,a5]))
 else ex 1 [x0,x1,x2,x3,x4,x5,x6,x7,x8,x9,a1,J,O,y,a3,W,a2,a4,a0,V,M,Z,Y,U,a5]:=by kernel_rfl
theorem agW(N:Nat)(p q r s:b8):jT f8 ZO N aay Tryz.f112 (.tup [.agg [.any],.agg b9,.c (.d si)]) [⟨.tup [.agg d0],p⟩,⟨ri,q⟩,⟨ag aI,r⟩,⟨ri,s⟩]=some (bo,
 nd (leI ((gd p 5).rows.length:Int) 1000000000) (bif (gd (sub (dB (gd p 4) (aF (gd p 5)) (gd q 0) (sub r 0 2) (gd s 0)) 0 3) 2).int==2 then some (1,[.i 0,gd p 0,gd p 1,gd p 2,gd p 3,gd p 4,gd p 5,gd p 6,gd p 7,gd p 8,.i 5])
 else bif (gd (sub (dB (gd p 4) (aF (gd p 5)) (gd q 0) (sub r 0 2) (gd s 0)) 0 3) 2).int==3 then some (1,[.i 0,gd p 0,gd p 1,gd p 2,gd p 3,gd p 4,gd p 5,gd p 6,gd p 7,gd p 8,.i 6])
 else (let y:=aX (Dt N p q r s) N [.i 0,gd q 0,gd r 0,gd r 1,gd s 0,.i 0,.i 0,gd (sub (dB (gd p 4) (aF (gd p 5)) (gd q 0) (sub r 0 2) (gd s 0)) 0 3) 0,gd (sub (dB (gd p 4) (aF (gd p 5)) (gd q 0) (sub r 0 2) (gd s 0)) 0 3) 1,gd (sub (dB (gd p 4) (aF (gd p 5)) (gd q 0) (sub r 0 2) (gd s 0)) 0 3) 2,gd (sub (dB (gd p 4) (aF (gd p 5)) (gd q 0) (sub r 0 2) (gd s 0)) 0 3) 2,gd (sub (dB (gd p 4) (aF (gd p 5)) (gd q 0) (sub r 0 2) (gd s 0)) 0 3) 1,.i ((gd (sub (dB (gd p 4) (aF (gd p 5)) (gd q 0) (sub r 0 2) (gd s 0)) 0 3) 1).rows.length:Int),.i 0,gd p 0,gd p 1,gd p 2,gd p 3,gd (sub (dB (gd p 4) (aF (gd p 5)) (gd q 0) (sub r 0 2) (gd s 0)) 0 3) 0,gd p 5,gd p 6,gd p 7,gd p 8,gd r 0,gd r 1]
  nd y.isSome (nd (y.code==3) (some (1,[.i 0,gd y.pay 14,gd y.pay 15,gd y.pay 16,gd y.pay 17,gd y.pay 18,gd y.pay 19,gd y.pay 20,gd y.pay 21,gd y.pay 22,.i 0])))))):=by kernel_rfl
abbrev Fx(p:b8)(n:D)(a:b8)(m:D):b8:=dB (gd p 4) (aF (gd p 5)) n (sub a 0 2) m
def agQ(p:b8)(n:D)(a:b8)(m:D):b8:=
 bif (gd (Fx p n a m) 2).int==2 then[.i 0,gd p 0,gd p 1,gd p 2,gd p 3,gd p 4,gd p 5,gd p 6,gd p 7,gd p 8,.i 5]
 else bif (gd (Fx p n a m) 2).int==3 then[.i 0,gd p 0,gd p 1,gd p 2,gd p 3,gd p 4,gd p 5,gd p 6,gd p 7,gd p 8,.i 6]
 else[.i 0,gd p 0,gd p 1,gd p 2,gd p 3,gd (Fx p n a m) 0,gd p 5,mA (gd p 6) (gd (Fx p n a m) 1) (gd (Fx p n a m) 1).rows.length,gd p 7,gd p 8,.i 0]
theorem Yk(l h n:D)(a:b8)(m:D):(gd (dB l h n a m) 1).rows.length<=40:=by
 unfold dB;cases y:bN [l] [h] [n] (sub a 0 2) [m] with
 | false=>exact n5 _
 | true =>
  have hl:=zI y;have hc:(clA l (bW n a m)).rows.length<=40:=m8 (je l (ON (bW n a m)) l.rows.length) hl;cases bV l n (sub a 0 2) m with
  | true=>exact n5 _
  | false =>
   cases ltI 0 ((clW l h (bW n a m)).rows.length:Int) with
   | true=>exact n5 _
   | false =>
    cases ((cO l (bW n a m)).rows.length:Int)==40 with
    | true=>exact n5 _
    | false=>exact hc
def ahX:Ent:=(112,e4 (.tup [.agg d0]) ri (ag aI) ri fun p q r s=>(⟨.tup [.agg [.any],.agg b9,.c (.d si)],sub (agQ p (gd q 0) r (gd s 0)) 0 11⟩,lK (gd p 6)&&(leI ((gd p 6).rows.length:Int) 10000&&leI ((gd p 5).rows.length:Int) 1000000000)))
theorem ahS:ay f8 ahX:=Bc fun p q r s h=>cN (N:=(gd (Fx p (gd q 0) r (gd s 0)) 1).rows.length+1) (ks:=aay) (key:=bo) (al (fC ⟨np,fC ⟨Vy,fC ⟨sV,fC ⟨xF,fN⟩⟩⟩⟩)) (cB Tryz.func112) Tryz.func112 fun hw M=>by
 rw[agW];have h:(lK (gd p 6)&&(leI ((gd p 6).rows.length:Int) 10000&&leI ((gd p 5).rows.length:Int) 1000000000))=true:=h;simp only[a9] at h;have y:=PK h.1;have O:((gd p 6).rows.length:Int)<=10000:=i7 h.2.1;refine congrArg (fun x=>some (bo,x)) ?_;unfold agQ;rw[h.2.2,aU,show sub (dB (gd p 4) (aF (gd p 5)) (gd q 0) (sub r 0 2) (gd s 0)) 0 3 = [gd (Fx p (gd q 0) r (gd s 0)) 0,gd (Fx p (gd q 0) r (gd s 0)) 1,gd (Fx p (gd q 0) r (gd s 0)) 2] from rfl];have U:(gd (Fx p (gd q 0) r (gd s 0)) 1).rows.length<=40:=Yk _ _ _ _ _;simp only[aq,ap];change _=some (1,sub (bif (gd (Fx p (gd q 0) r (gd s 0)) 2).int==2 then _ else bif (gd (Fx p (gd q 0) r (gd s 0)) 2).int==3 then _ else _) 0 11);generalize Fx p (gd q 0) r (gd s 0)=A at *;cases (gd A 2).int==2 with
 | true=>rfl
 | false =>
  cases (gd A 2).int==3 with
  | true=>rfl
  | false =>
   simp only[f9];have e:=cJ (L:=Dt ((gd A 1).rows.length+1) p q r s) (fun k => [.i 0,gd q 0,gd r 0,gd r 1,gd s 0,.i 0,.i 0,gd A 0,gd A 1,gd A 2,gd A 2,gd A 1,.i ((gd A 1).rows.length:Int),.i (k:Int),gd p 0,gd p 1,gd p 2,gd p 3,gd A 0,gd p 5,mA (gd p 6) (gd A 1) k,gd p 7,gd p 8,gd r 0,gd r 1]) (gd A 1).rows.length 1 (fun k hk=>?_) ?_ (N:=(gd A 1).rows.length+1) (by omega)
   ·simp only[j9] at e;rw[show mA (gd p 6) (gd A 1) 0=gd p 6 from rfl] at e;rw[Ut e]
    case e=>rfl
    rfl
   ·show Dt _ p q r s [_,_,_,_,_,_,_,_,_,_,_,_,_,.i (k:Int),_,_,_,_,_,_,_,_,_,_,_]=_;rw[acH];obtain⟨J,_⟩:=zF (t:=gd A 1) y k (by omega);have V:=GR (gd p 6) (gd A 1) k;simp only[aA,di hk,bu hk,g8,aU,aG hk (show (gd A 1).rows.length<=9223372036854775807 by omega),CE J,bi (show ((mA (gd p 6) (gd A 1) k).rows.length:Int)<=40000 by omega),u5];rfl
   ·show Dt _ p q r s [_,_,_,_,_,_,_,_,_,_,_,_,.i ((gd A 1).rows.length:Int),.i ((gd A 1).rows.length:Int),_,_,_,_,_,_,_,_,_,_,_]=_;rw[acH];simp only[aA,ca]
inductive Fld where
 | i (off:Nat)
 | b (off:Nat)
 | m (off:Nat) (F:b8->D->b8) (c:D->Nat)
def Fld.off:Fld->Nat
 | .i o=>o
 | .b o=>o
 | .m o _ _=>o
def akJ(w:Nat):Fld->Prop
 | .i o=>o<w
 | .b o=>o<w
 | .m o F c=>o<w/\∀x q:D,0<=q.int->q.int+c x<=4611686018427387904->(gd (F [x] q) 0).int=q.int+c x
theorem akJ.lt{w:Nat}{f:Fld}(h:akJ w f):f.off<w:=by cases f <;> first | exact h | exact h.1
theorem uA(z:D)(n:Int):ii z n=true↔∃r∈z.rows,(gd r 0).int=n:=by
 unfold ii;rw[D3];constructor
 ·rintro⟨k,hk,h⟩;have hk:=m7.1 hk;exact⟨z.rows.getD k [],by rw[aZ hk];exact v6 hk,by simpa using h⟩
 ·rintro⟨r,y,h⟩;obtain⟨k,hk,rfl⟩:=t9 y;exact⟨k,m7.2 hk,by rw[aZ hk];simpa using h⟩
theorem agl(z:D)(n:Int):aC z n=true↔∃r∈z.rows,(gd r 0).int=n:=by
 unfold aC eL;rw[D3];constructor
 ·rintro⟨k,hk,h⟩;have hk:=m7.1 hk;exact⟨z.rows.getD k [],by rw[aZ hk];exact v6 hk,by simpa using (u7.1 h).symm⟩
 ·rintro⟨r,y,h⟩;obtain⟨k,hk,rfl⟩:=t9 y;exact⟨k,m7.2 hk,by rw[aZ hk];simpa using h.symm⟩
theorem En(z:D)(n:Int):aC (aF z) n=ii z n:=by
 rw[y0,agl,uA];constructor
 ·rintro⟨r,y,h⟩;obtain⟨x,J,rfl⟩:=A8.1 y;exact⟨x,J,h⟩
 ·rintro⟨r,y,h⟩;exact⟨[gd r 0],A8.2 ⟨r,y,rfl⟩,h⟩
theorem eG(p:b8):gd (ddS p) 5=.l ((gd p 5).rows.map fun r => [gd r 0,.l (gd r 1).rows]):=by show D.l (kpL (fun _=>true) (fun k => [gd ((gd p 5).rows.getD k []) 0,.l (gd ((gd p 5).rows.getD k []) 1).rows]) (gd p 5).rows.length)=_;rw[Xi (gd p 5).rows (fun _=>true) (fun r => [gd r 0,.l (gd r 1).rows]),G4.2 (fun _ _=>rfl)]
theorem ajy(p:b8)(n:Int):aC (aF (gd (ddS p) 5)) n=ii (gd p 5) n:=by
 rw[En,eG,y0,uA,uA];constructor
 ·rintro⟨r,y,h⟩;obtain⟨x,J,rfl⟩:=A8.1 y;exact⟨x,J,h⟩
 ·rintro⟨r,y,h⟩;exact⟨[gd r 0,.l (gd r 1).rows],A8.2 ⟨r,y,rfl⟩,h⟩
end Go.Proofs.YtpdfmcmnjikppaaGreat
namespace Go.Proofs.YtpdfmcmnjikppaaGreat.HH
open Go.RowKit Go.Lib Go.Proofs.YtpdfmcmnjikppaaGreat.H
set_option maxRecDepth 100000
set_option maxHeartbeats 4000000
abbrev zh:Value:=.agg #[.int .i64 0,.slice none 0 0]
theorem alT(w:World):(zeroValue 75).run f8 w=.ok zh w:=Tryz.zeroValue75 w
theorem info_held:(Tryz.prog.info? 75).map (fun i=>(i.zero,i.size,i.bytes))=some (some zh,2,32):=by kernel_rfl
theorem del_held(b off n c i j:Nat)(cs:List Value)(w:World)(hj:j=i+1)(hi:i<n)(c0:n<=c)(a8:c<=9223372036854775807)(a6:cs.length=n*2)(Z:∀j v,cs[j]?=some v->w.cell? ⟨b,off+j,none⟩=some v)
  (a0:∀j,j<n*2->w.frozen? ⟨b,off+j,none⟩=false) (h1:∀v∈cs,v.oneCell'=true) :
  Calls f8 140 #[.slice (some ⟨b,off,none⟩) n c,.int .i64 i,.int .i64 j] w fun e w' =>
   e=.returned (.slice (some ⟨b,off,none⟩) (n - 1) c)/\w'=(w.drew.setCells b (off+i*2) (cs.drop (j*2))).setCells b (off+(n - 1)*2) zh.cells.toList:=by
 obtain⟨i0,a5,c2,a4,c1⟩:=info_parts info_held;have O:∀j,j<n*2->(w.cell? ⟨b,off+j,none⟩).isSome=true:=fun j hj=>by rw[Z j _ (g9 (by omega))];rfl
 have a7:Tryz.prog.follows .mixedOrders=true:=by kernel_rfl
 have c3:¬((i:Int)=(j:Int)):=by omega
 obtain⟨y,M⟩:∃y,y=cs.drop (j*2):=⟨_,rfl⟩;have W:y.length=(n - j)*2:=by rw[M,v9,a6,N9]
 have a1:∀t u,y[t]?=some u->w.cell? ⟨b,off+j*2+t,none⟩=some u:=fun t u J=>by rw[M,A6] at J;rw[u4];exact Z _ u J
 have s2:Hid (∀u∈y,u.oneCell'=true):=fun u J=>h1 u (by rw[M] at J;exact D1 J)
 obtain⟨A,hA,a3⟩:∃A:Addr,(if c=j then some (⟨b,off,none⟩:Addr) else some ⟨b,off+j*2,none⟩)=some A/\Hid (∀t u,y[t]?=some u->w.drew.cell? (A.add t)=some u):=by
  by_cases h:c=j
  ·refine⟨⟨b,off,none⟩,by simp[h],fun t u J=>?_⟩;have h0:y.length=0:=by rw[W];omega
   rw[L6.1 h0] at J;simp at J
  ·refine⟨⟨b,off+j*2,none⟩,by simp[h],fun t u J=>?_⟩;rw[C1];exact a1 t u J
 have s1:Hid (y.length=(n - j)*2):=W;have s3:Hid (∀t,t<y.length->(w.drew.cell? ⟨b,off+i*2+t,none⟩).isSome=true/\w.drew.frozen? ⟨b,off+i*2+t,none⟩=false):=fun t U=>by rw[W] at U;rw[u4];exact⟨O _ (by omega),a0 _ (by omega)⟩
 obtain⟨Y,V⟩:∃Y,Y=w.drew.setCells b (off+i*2) y:=⟨_,rfl⟩;have b0:∀ty cc,(Builtin.clear_ #[35] ty #[.slice (some ⟨b,off+(n - 1)*2,none⟩) 1 cc]).run f8 Y=.ok (.tuple #[]) (Y.setCells b (off+(n - 1)*2) zh.cells.toList):=fun ty cc=>by
  refine LJ Y _ _ ty zh Tryz.underlying35 alT (fun u J=>?_) b _ cc (by decide) (fun t U=>?_) (fun t U=>?_)
  ·simp[Value.cells] at J;rcases J with rfl | rfl <;> rfl
  ·have U:t<2:=U;rw[V];refine jp b _ _ _ (fun j hj=>?_) _ ?_
   ·rw[u4];exact O _ (by omega)
   ·rw[u4];exact O _ (by omega)
  ·have U:t<2:=U;rw[V,F2,u4];exact a0 _ (by omega)
 have a2:Hid (Y=w.drew.setCells b (off+i*2) y):=V;have e1:i+(n - j)=n - 1:=by omega
 have e2:n - (n - 1)=1:=by omega
 have b1:i<=c:=by omega
 have b2:j<=c:=by omega
 have b5:j<=n:=by omega
 have b6:i<=j:=by omega
 have b3:¬(c=n - 1):=by omega
 have b4:n - 1<=n:=by omega
 clear V Z a0 O a1 W hj;go_enter Tryz.func140,Tryz.ntmps140
 go_wp2_with fail
 go_region_law_o (refine step_append_room rfl (.tmp 22) (.tmp 25) 35 rfl 75 i0 2 Tryz.underlying35 a5 a4 b off i c (by simp[Act.eval,Act.put]) A (n - j) (c - j) y (by simp[Act.eval,Act.put]) s1.out a3.out s2.out (by omega) s3.out ?_;rw[<- a2.out,e1])
 go_wp2
 go_ret
 refine⟨rfl,?_⟩;rw[a2.out,M];rfl
theorem ins_shift(b off n c i k M y vc:Nat)(cs vs:List Value)(w:World)(hk:k=i+1)(hi:i<n)(c7:n+1<=c)(c9:c<=9223372036854775807)(b2:M≠b)
  (c6:cs.length=n*2) (a3:vs.length=2)
  (b3:∀j v,cs[j]?=some v->w.cell? ⟨b,off+j,none⟩=some v) (Z:∀j,j<(n+1)*2->(w.cell? ⟨b,off+j,none⟩).isSome=true) (a4:∀j,j<(n+1)*2->w.frozen? ⟨b,off+j,none⟩=false)
  (b1:∀j v,vs[j]?=some v->w.cell? ⟨M,y+j,none⟩=some v) (c0:∀v∈cs,v.oneCell'=true) (c4:∀v∈vs,v.oneCell'=true)
  (tA tB:TypeId) (kA kB:Nat) (a6:w.shape? M=some (tA,kA)) (a7:w.shape? b=some (tB,kB)) (b6:kB≠0) (a5:w.frozen? ⟨M,y,none⟩=false) (b4:w.frozen? ⟨M,kA,none⟩=false) :
  Calls f8 118 #[.slice (some ⟨b,off,none⟩) n c,.int .i64 i,.slice (some ⟨M,y,none⟩) 1 vc] w fun e w' =>
   e=.returned (.slice (some ⟨b,off,none⟩) (n+1) c)/\w'=(w.drew.setCells b (off+k*2) (cs.drop (i*2))).setCells b (off+i*2) vs:=by
 obtain⟨i0,c3,e0,c2,d8⟩:=info_parts info_held;have c8:Tryz.prog.follows .mixedOrders=true:=by kernel_rfl
 have d5:¬((i:Int)=(n:Int)):=by omega
 have a8:(Tryz.prog.info? 75).map (·.size)=some 2:=by rw[c3];simp[c2]
 have a0:=Tryz.underlying35;have c5:∀lb cb,(callFunc 216 #[.slice (some ⟨M,y,none⟩) 1 vc,.slice (some ⟨b,off+k*2,none⟩) lb cb]).run f8 w=.ok (.value (.bool false)) w:=fun lb cb=>by
  rw[run_callFunc_extern Tryz.func216 (by kernel_rfl) (by kernel_rfl) (by kernel_rfl) (e:=Extern.SlicesOverlaps.overlaps #[35,35] #[4]) (by kernel_rfl),
   Lib.run_overlaps_apart w 35 4 75 a0 2 Tryz.sizeOf75 ⟨M,y,none⟩ ⟨b,off+k*2,none⟩ 1 vc lb cb b2 tA tB kA kB a6 a7 b6 a5 b4]
  rfl
 have U:(cs.drop (i*2)).length=(n - i)*2:=by rw[v9,c6,N9]
 have a2:∀Y V sc,(Builtin.copy_ #[35,35] Y #[.slice (some ⟨b,off+k*2,none⟩) (n+1 - k) V,.slice (some ⟨b,off+i*2,none⟩) (n+1 - i) sc]).run f8 w.drew=.ok (goInt ((n - i:Nat):Int)) (w.drew.setCells b (off+k*2) (cs.drop (i*2))):=fun Y V sc =>
  gk w.drew _ _ Y 75 2 b (off+k*2) (n - i) (n+1 - k) V ⟨b,off+i*2,none⟩ (n+1 - i) sc (cs.drop (i*2)) a0 a8 (by simp only[H6];split <;> omega) U
   (fun j v J=>by rw[C1,u4];exact b3 (i*2+j) v (by rwa [A6] at J))
   (fun j J=>by rw[U] at J;rw[u4];exact Z _ (by omega)) (fun j J=>by rw[U] at J;rw[u4];exact a4 _ (by omega)) (fun v hv=>c0 v (D1 hv))
 obtain⟨W1,O⟩:∃W1,W1=w.drew.setCells b (off+k*2) (cs.drop (i*2)):=⟨_,rfl⟩;have a1:∀t,t<(n+1)*2->(W1.cell? ⟨b,off+t,none⟩).isSome=true:=fun t ht=>by rw[O];exact jp b _ _ _ (fun j J=>by rw[U] at J;rw[u4];exact Z _ (by omega)) _ (Z t ht)
 have b5:∀(W:World),(∀x,W.cell? x=W1.cell? x)->(∀x,W.frozen? x=W1.frozen? x)->∀Y V,(Builtin.copy_ #[35,35] Y #[.slice (some ⟨b,off+i*2,none⟩) (n+1 - i) V,.slice (some ⟨M,y,none⟩) 1 vc]).run f8 W=.ok (goInt 1) (W.setCells b (off+i*2) vs):=fun W b0 c1 Y V =>
  gk W _ _ Y 75 2 b (off+i*2) 1 (n+1 - i) V ⟨M,y,none⟩ 1 vc vs a0 a8 (by simp only[H6];split <;> omega) (by rw[a3])
   (fun j v J=>by rw[C1,b0,O,F4 b _ _ _ _ (fun h _=>absurd h b2)];exact b1 j v J)
   (fun j J=>by rw[a3] at J;rw[b0,u4];exact a1 _ (by omega)) (fun j J=>by rw[a3] at J;rw[c1,O,F2,u4];exact a4 _ (by omega)) c4
 have hE:Hid (W1=w.drew.setCells b (off+k*2) (cs.drop (i*2))):=O;rw[<- O] at a2;have d7:IntKind.i64.wrap ((n:Int)+1)=((n+1:Nat):Int):=by rw[C2];omega
 have d4:IntKind.i64.wrap ((i:Int)+1)=(k:Int):=by rw[C2];omega
 have d6:¬((n:Int)+1 > (c:Int)):=by omega
 have e6:¬(c=k):=by omega
 have e7:¬(c=i):=by omega
 have hin:i<=n:=by omega
 have d3:(k:Int)<=(n:Int)+1:=by omega
 have d1:(i:Int)<=(n:Int)+1:=by omega
 have d2:i<=n+1:=by omega
 clear Z a4 b3 b1 a1 O a6 a7 a5 b4 hk U;go_enter Tryz.func118,Tryz.ntmps118
 go_wp2_with (simp only[c5])
 go_region_law_o (refine step_copy_runI rfl _ _ 35 35 rfl _ _ (by simp[Act.eval,Act.put]) (by simp[Act.eval,Act.put]) (a2 _ _ _) ?_)
 go_wp2_with (at_builtin;refine wpList_copy_runI _ rfl _ _ 35 35 rfl _ _ rfl rfl (b5 _ (fun _=>rfl) (fun _=>rfl) _ _) ?_)
 go_ret
 exact⟨rfl,by rw[hE.out]⟩
theorem ins_end(base:Option Addr)(n c M y vc:Nat)(w w1:World)(J:Value)(a0:n<=c)(Y:c<=9223372036854775807)(W:base=none->c=0)(O:∀Z,(Builtin.append_ #[35,35] Z #[.slice base n c,.slice (some ⟨M,y,none⟩) 1 vc]).run f8 w=.ok J w1) :
  Calls f8 118 #[.slice base n c,.int .i64 n,.slice (some ⟨M,y,none⟩) 1 vc] w fun e w'=>e=.returned J/\w'=w1:=by
 have U:Tryz.prog.follows .mixedOrders=true:=by kernel_rfl
 cases base with
 | none =>
  have V:=W rfl;subst V;obtain rfl:n=0:=by omega
  go_enter Tryz.func118,Tryz.ntmps118
  go_wp2_with (at_builtin;refine Lib.wpList_append_run _ rfl _ _ _ _ rfl _ _ rfl rfl _ _ (O _) ?_)
  all_goals (go_ret;exact⟨rfl,rfl⟩)
 | some a =>
  obtain⟨ab,ao,a1⟩:=a;go_enter Tryz.func118,Tryz.ntmps118
  go_wp2_with (at_builtin;refine Lib.wpList_append_run _ rfl _ _ _ _ rfl _ _ rfl rfl _ _ (O _) ?_)
  all_goals (go_ret;exact⟨rfl,rfl⟩)
theorem ins_grow(b off n i k vb Y vc:Nat)(cs M:List Value)(w:World)(hk:k=i+1)(hi:i<n)(c2:(n+1)*32<=140737488355328)
  (b6:cs.length=n*2) (a5:M.length=2)
  (a2:∀j v,cs[j]?=some v->w.cell? ⟨b,off+j,none⟩=some v)
  (b1:∀j v,M[j]?=some v->w.cell? ⟨vb,Y+j,none⟩=some v) (d3:∀v∈cs,v.oneCell'=true) (d5:∀v∈M,v.oneCell'=true) :
  Calls f8 118 #[.slice (some ⟨b,off,none⟩) n n,.int .i64 i,.slice (some ⟨vb,Y,none⟩) 1 vc] w fun e w' =>
   e=.returned (.slice (some ⟨w.heap.size,0,none⟩) (n+1) (grownCap w (n+1) n 75)) /\
   w'=(((w.alloc (.cells ((cs.take (i*2)).toArray++Builtin.zeroCells zh.cells (n+1 - i)++Builtin.zeroCells zh.cells (grownCap w (n+1) n 75 - (n+1))) 75)).drew.setCells w.heap.size (i*2) M).drew).setCells w.heap.size (k*2) (cs.drop (i*2)):=by
 obtain⟨i0,b5,c3,b0,b2⟩:=info_parts info_held;have d8:Tryz.prog.follows .mixedOrders=true:=by kernel_rfl
 have a3:=Tryz.underlying35;have u3:=Tryz.underlying3;have h0:¬((i:Int)=(n:Int)):=by omega
 have a8:(Tryz.prog.info? 75).map (·.size)=some 2:=by rw[b5];simp[b0]
 have d1:b<w.heap.size:=block_lt_of_cell (a2 0 _ (g9 (by omega)));have c4:vb<w.heap.size:=block_lt_of_cell (b1 0 _ (g9 (by omega)));have a7:i+(n+1 - i)=n+1:=by omega
 have a6:(Builtin.firstCells i0.size i (.slice (some ⟨b,off,none⟩) i n)).run f8 w.drew=.ok (cs.take (i*2)).toArray w.drew:=by
  rw[b0];exact run_firstCells_some w.drew 2 i ⟨b,off,none⟩ i n (cs.take (i*2)) (by rw[w5];omega) (fun j v J=>by
   rw[C1];rw[u9] at J
   split at J
   ·exact a2 j v J
   ·cases J)
 have f0:IntKind.i64.wrap (((n+1:Nat):Int) - (i:Int))=((n+1 - i:Nat):Int):=by rw[C2];omega
 have a1:∀O,(Builtin.append_ #[35,3] O #[.slice (some ⟨b,off,none⟩) i n,.int .i64 ((n+1 - i:Nat):Int)]).run f8 w =
   .ok (.slice (some ⟨w.heap.size,0,none⟩) (n+1) (grownCap w (n+1) n 75)) (w.drew.alloc (.cells ((cs.take (i*2)).toArray++Builtin.zeroCells zh.cells (n+1 - i)++Builtin.zeroCells zh.cells (grownCap w (n+1) n 75 - (n+1))) 75)):=fun O=>by
  have h:=Lib.run_append_grow_zeros w 35 3 O 75 i0 zh .i64 .i64 a3 u3 b5 c3 (some ⟨b,off,none⟩) i n (cs.take (i*2)) a6 (n+1 - i) (by omega) (by omega) (by omega) (by omega) (by rw[b2];omega) (by rw[b2,a7];exact growslice_fits (by omega) c2);rw[a7] at h;exact h
 obtain⟨G,hG⟩:∃G,G=grownCap w (n+1) n 75:=⟨_,rfl⟩;obtain⟨y,a0⟩:∃y:Array Value,y=(cs.take (i*2)).toArray++Builtin.zeroCells zh.cells (n+1 - i)++Builtin.zeroCells zh.cells (G - (n+1)):=⟨_,rfl⟩;rw[<- hG] at a1 ⊢;rw[<- a0] at a1 ⊢;have c8:(n+1)*2<=y.size:=by rw[a0];simp[Builtin.zeroCells,Value.cells,b6];omega
 obtain⟨U,V⟩:∃U,U=w.drew.alloc (.cells y 75):=⟨_,rfl⟩;rw[<- V] at a1;have hN:∀j,j<(n+1)*2->(U.cell? ⟨w.heap.size,j,none⟩).isSome=true:=fun j J=>by rw[V,O0 (w:=w.drew) y _ w.heap.size j rfl,n8 (by omega)];rfl
 have b4:∀j,U.frozen? ⟨w.heap.size,j,none⟩=false:=fun j=>by rw[V];exact M3 (w:=w.drew) y _ w.heap.size j rfl
 have c9:∀j v,w.cell? ⟨b,j,none⟩=some v->U.cell? ⟨b,j,none⟩=some v:=fun j v h=>by rw[V,H0 (w:=w.drew) _ b j d1];exact h
 have d4:∀j v,w.cell? ⟨vb,j,none⟩=some v->U.cell? ⟨vb,j,none⟩=some v:=fun j v h=>by rw[V,H0 (w:=w.drew) _ vb j c4];exact h
 have c1:∀(W:World),(∀x,W.cell? x=U.cell? x)->(∀x,W.frozen? x=U.frozen? x)->∀O dc,(Builtin.copy_ #[35,35] O #[.slice (some ⟨w.heap.size,i*2,none⟩) (n+1 - i) dc,.slice (some ⟨vb,Y,none⟩) 1 vc]).run f8 W=.ok (goInt 1) (W.setCells w.heap.size (i*2) M):=fun W Z a4 O dc =>
  gk W _ _ O 75 2 w.heap.size (i*2) 1 (n+1 - i) dc ⟨vb,Y,none⟩ 1 vc M a3 a8 (by simp only[H6];split <;> omega) (by rw[a5])
   (fun j v J=>by rw[C1,Z];exact d4 _ v (b1 j v J))
   (fun j J=>by rw[a5] at J;rw[Z];exact hN _ (by omega)) (fun j J=>by rw[a4];exact b4 _) d5
 have f3:n+1<=G:=by rw[hG];exact grownCap_ge w _ _ _
 have e6:G<=9223372036854775807:=by have:=grownCap_le_maxLen w (n+1) n 75 (by unfold maxLen;omega);rw[<- hG] at this;unfold maxLen at this;omega
 have c7:b≠w.heap.size:=by omega
 have b3:(cs.drop (i*2)).length=(n - i)*2:=by rw[v9,b6,N9]
 have c0:∀(W:World),(∀x,W.cell? x=(U.setCells w.heap.size (i*2) M).cell? x)->(∀x,W.frozen? x=(U.setCells w.heap.size (i*2) M).frozen? x)->∀O dc sc,(Builtin.copy_ #[35,35] O #[.slice (some ⟨w.heap.size,k*2,none⟩) (n+1 - k) dc,.slice (some ⟨b,off+i*2,none⟩) (n - i) sc]).run f8 W=.ok (goInt ((n - i:Nat):Int)) (W.setCells w.heap.size (k*2) (cs.drop (i*2))):=fun W Z a4 O dc sc =>
  gk W _ _ O 75 2 w.heap.size (k*2) (n - i) (n+1 - k) dc ⟨b,off+i*2,none⟩ (n - i) sc (cs.drop (i*2)) a3 a8 (by simp only[H6];split <;> omega) b3
   (fun j v J=>by rw[C1,Z,F4 _ _ _ _ _ (fun h _=>absurd h c7),u4];exact c9 _ v (a2 (i*2+j) v (by rwa [A6] at J)))
   (fun j J=>by rw[b3] at J;rw[Z];exact jp _ _ _ _ (fun t ht=>by rw[a5] at ht;exact hN _ (by omega)) _ (hN _ (by omega)))
   (fun j J=>by rw[a4,F2];exact b4 _) (fun v hv=>d3 v (D1 hv))
 subst V;have c5:∀x,((w.alloc (.cells y 75)).drew).cell? x=(w.drew.alloc (.cells y 75)).cell? x:=fun x=>rfl
 have c6:∀x,((w.alloc (.cells y 75)).drew).frozen? x=(w.drew.alloc (.cells y 75)).frozen? x:=fun x=>rfl
 have d2:∀x,(((w.alloc (.cells y 75)).drew.setCells w.heap.size (i*2) M).drew).cell? x=((w.drew.alloc (.cells y 75)).setCells w.heap.size (i*2) M).cell? x:=fun x=>rfl
 have d6:∀x,(((w.alloc (.cells y 75)).drew.setCells w.heap.size (i*2) M).drew).frozen? x=((w.drew.alloc (.cells y 75)).setCells w.heap.size (i*2) M).frozen? x:=fun x=>rfl
 have f1:IntKind.i64.wrap ((n:Int)+1)=((n+1:Nat):Int):=by rw[C2];omega
 have e9:IntKind.i64.wrap ((i:Int)+1)=(k:Int):=by rw[C2];omega
 have g2:IntKind.i64.wrap ((n:Int)+1 - (i:Int))=((n+1 - i:Nat):Int):=by rw[C2];omega
 have e8:(n:Int)+1 - (i:Int)=((n+1 - i:Nat):Int):=by omega
 have g3:(n:Int)+1 > (n:Int):=by omega
 have g1:¬(n=i):=by omega
 have h2:¬(G=i):=by omega
 have f2:¬(G=k):=by omega
 have hin:i<=n:=by omega
 have e7:(i:Int)<=(n:Int):=by omega
 have e0:(k:Int)<=(n:Int)+1:=by omega
 have d7:(i:Int)<=(n:Int)+1:=by omega
 clear a6 a0 hG c8 a7 hk;go_enter Tryz.func118,Tryz.ntmps118
 go_wp2_with (first
  | (at_builtin;refine Lib.wpList_append_run _ rfl _ _ _ _ rfl _ _ rfl rfl _ _ (a1 _) ?_)
  | (at_builtin;refine wpList_copy_runI _ rfl _ _ 35 35 rfl _ _ rfl rfl (c1 _ c5 c6 _ _) ?_))
 go_region_law_o (refine step_copy_runI rfl _ _ 35 35 rfl (.slice (some ⟨w.heap.size,k*2,none⟩) (n+1 - k) (G - k)) (.slice (some ⟨b,off+i*2,none⟩) (n - i) (n - i)) (by simp[Act.eval,Act.put]) (by simp[Act.eval,Act.put]) (c0 _ d2 d6 3 (G - k) (n - i)) ?_)
 go_wp2
 go_ret
 exact⟨rfl,rfl⟩
end Go.Proofs.YtpdfmcmnjikppaaGreat.HH
namespace Go.Proofs.YtpdfmcmnjikppaaGreat
set_option maxRecDepth 100000
set_option maxHeartbeats 4000000
open Go.RowKit Go.Lib
def Kr(w:World)(n:Nat)(cs:List Value)(u:Value)(B:Option Nat):Prop:=cs.length=n*2/\(∀v∈cs,v.oneCell'=true)/\((B=none/\n=0/\∃A,u=.slice A 0 0) \/
 ∃(b cap:Nat) (y:Array Value),B=some b/\u=.slice (some ⟨b,0,none⟩) n cap/\n<=cap/\cap<=9223372036854775807/\w.heap[b]?=some (.cells y 75 (0,0))/\y.size=cap*2/\∀(k:Nat) v,cs[k]?=some v->y[k]?=some v)
theorem Gv{w:World}{n m cap b:Nat}{cs:List Value}{y:Array Value}(U:w.heap[b]?=some (.cells y 75 (0,0)))(W:m=n)(V:y.size=cap*2)(O:n<=cap)(M:cap<=9223372036854775807)
  (hc:∀(k:Nat) v,cs[k]?=some v->y[k]?=some v):((some b:Option Nat)=none/\n=0/\∃A,Value.slice (some ⟨b,0,none⟩) m cap=.slice A 0 0) \/
 ∃(b' J:Nat) (y:Array Value),some b=some b'/\Value.slice (some ⟨b,0,none⟩) m cap=.slice (some ⟨b',0,none⟩) n J/\n<=J/\J<=9223372036854775807/\w.heap[b']?=some (.cells y 75 (0,0))/\y.size=J*2/\∀(k:Nat) v,cs[k]?=some v->y[k]?=some v:=by
 subst W;exact .inr ⟨b,cap,y,rfl,rfl,O,M,U,V,hc⟩
theorem aiH{w:World}{n c:Nat}{cs y:List Value}{base:Option Addr}{B:Option Nat}(hO:Kr w n cs (.slice base n c) B)(Z J vc:Nat)(hn:n<=1000000)(U:y.length=2)(b1:∀v∈y,v.oneCell'=true)
  (hv:∀(k:Nat) v,y[k]?=some v->w.cell? ⟨Z,J+k,none⟩=some v) :
  ∃v' w1 B',(∀V,(Builtin.append_ #[35,35] V #[.slice base n c,.slice (some ⟨Z,J,none⟩) 1 vc]).run f8 w=.ok v' w1)/\aM w w1 B/\Kr w1 (n+1) (cs++y) v' B'/\∀b,B'=some b->B=some b\/w.heap.size<=b:=by
 obtain⟨W,b4,hO⟩:=hO;have a6:(cs++y).length=(n+1)*2:=by rw[i6,W,U];omega
 have b0:∀v∈cs++y,v.oneCell'=true:=fun v hv=>(n3.1 hv).elim (b4 v) (b1 v)
 obtain⟨i0,a1,a5,O,a3⟩:=info_parts HH.info_held;have a0:y.length=1*i0.size:=by rw[O,U]
 have M:∀(j:Nat) v,y[j]?=some v->w.cell? ((⟨Z,J,none⟩:Addr).add j)=some v:=fun j v hj=>by rw[C1];exact hv j v hj
 have b5:HH.zh.cells.size=2:=rfl
 -- a new block
 have a7:∀(old:Nat),(w.drew.alloc (.cells (cs.toArray++y.toArray++Builtin.zeroCells HH.zh.cells (grownCap w (n+1) old 75 - (n+1))) 75)).heap.size=w.heap.size+1 /\
   aM w (w.drew.alloc (.cells (cs.toArray++y.toArray++Builtin.zeroCells HH.zh.cells (grownCap w (n+1) old 75 - (n+1))) 75)) B /\
   Kr (w.drew.alloc (.cells (cs.toArray++y.toArray++Builtin.zeroCells HH.zh.cells (grownCap w (n+1) old 75 - (n+1))) 75)) (n+1) (cs++y) (.slice (some ⟨w.heap.size,0,none⟩) (n+1) (grownCap w (n+1) old 75)) (some w.heap.size):=by
  intro old;have a4:=grownCap_ge w (n+1) old 75;have b3:=grownCap_le_maxLen w (n+1) old 75 (by unfold maxLen;omega);refine⟨by simp[World.alloc],⟨rfl,rfl,rfl,by simp[World.alloc],fun k hk _=>Below.heap_alloc w.drew _ k hk⟩,⟨a6,b0,Gv (by letI:Low:=Dy;exact gH w.drew _) rfl ?_ (by simpa using a4) (by unfold maxLen at b3;omega) fun k v hk=>?_⟩⟩
  ·simp only[D2,B8,W,U,size_zeroCells,b5,D8,z8];omega
  ·have b6:=(g7.1 hk).1;rw[v5 (by simpa using b6)];simpa using hk
 rcases hO with⟨rfl,rfl,A,hA⟩ | ⟨b,cap,arr,rfl,hA,hle,h63,hh,hs,hc⟩
 ·injection hA with e0 e1 e2
  subst e0 e2;obtain rfl:cs = []:=v7 (by rw[W]);obtain⟨_,q2,q3⟩:=a7 0;refine⟨_,_,some w.heap.size,fun V=>?_,q2,q3,fun b Y=>.inr (by injection Y with Y;omega)⟩;cases base with
  | none =>have:=run_append_nil (P:=f8) w 35 V 75 i0 HH.zh Tryz.underlying35 a1 a5 ⟨Z,J,none⟩ 1 vc y a0 M (by omega) (by omega) (by rw[a3];omega);rw[this];simp
  | some a =>have:=run_append_grow (P:=f8) w 35 V 75 i0 HH.zh Tryz.underlying35 a1 a5 a 0 0 [] (by simp) (fun j v hj=>by simp at hj) ⟨Z,J,none⟩ 1 vc y a0 M (by omega) (by omega) (by rw[a3];exact growslice_fits (by omega) (by omega));rw[this]
 ·injection hA with e0 e1 e2
  subst e0 e2;by_cases a2:n+1<=c
  ·have b2:n*i0.size+y.length<=arr.size:=by rw[O,hs];rw[U];omega
   have c2:=U;have c1:=W;refine⟨_,_,some b,fun V=>run_append_room (P:=f8) w 35 V 75 i0 Tryz.underlying35 a1 b n c arr hh ⟨Z,J,none⟩ 1 vc y a0 M b1 a2 b2,⟨rfl,rfl,rfl,by simp,fun k _ hk=>setRow_other w b k _ (fun e=>hk (by rw[e]))⟩,?_,fun b Y=>.inl Y⟩;refine⟨a6,b0,Gv (setRow_heap w b arr _ _ _ hh) rfl ?_ (by simpa using a2) h63 fun k v hk=>?_⟩
   ·simp only[B8,i6,w5,v9,F7,c2,O];omega
   ·rw[A5] at hk;rw[G6,C0,A5,O];have c0:(arr.toList.take (n*2)).length=n*2:=by have e0:arr.toList.length=arr.size:=F7;rw[w5,e0,hs];omega
    rw[c0];rw[c1] at hk
    split at hk
    ·rename_i a8;rw[m6 a8,u9,m6 a8,M9];exact hc k v (by exact hk)
    ·rename_i a4;rw[j7 a4,z9 (g7.1 hk).1];exact hk
  ·obtain⟨_,q2,q3⟩:=a7 c;refine⟨_,_,some w.heap.size,fun V=>?_,q2,q3,fun b Y=>.inr (by injection Y with Y;omega)⟩;exact run_append_grow (P:=f8) w 35 V 75 i0 HH.zh Tryz.underlying35 a1 a5 ⟨b,0,none⟩ n c cs (by rw[W,O]) (fun j v hj=>by rw[C1,m0,eW hh];exact hc j v hj) ⟨Z,J,none⟩ 1 vc y a0 M (by omega) (by omega) (by rw[a3];exact growslice_fits (by omega) (by omega))
theorem NZ{cs J:List Value}{n i:Nat}(M:cs.length=n*2)(U:J.length=2)(hi:i<=n){k:Nat}{v:Value}(hk:(cs.take (i*2)++J++cs.drop (i*2))[k]?=some v) :
  (k<i*2/\cs[k]?=some v)\/(i*2<=k/\k<(i+1)*2/\J[k - i*2]?=some v)\/((i+1)*2<=k/\(cs.drop (i*2))[k - (i+1)*2]?=some v):=by
 have O:(cs.take (i*2)).length=i*2:=by rw[w5,M];omega
 rw[C0,A5,O] at hk
 split at hk
 ·rename_i y;rw[u9,m6 y] at hk;exact .inl ⟨y,hk⟩
 ·rename_i V;rw[A5,U] at hk
  split at hk
  ·exact .inr (.inl ⟨by omega,by omega,hk⟩)
  ·refine .inr (.inr ⟨by omega,?_⟩);rw[show k - (i+1)*2=k - i*2 - 2 from by omega];exact hk
theorem aai{w:World}{n i:Nat}{cs J:List Value}{u uv:Value}{B B2:Option Nat}(hO:Kr w n cs u B)(a8:Kr w 1 J uv B2)(hB:∀b,B=some b->B2=some b->False)(e8:n<=1000000)(f3:i<=n) :
  Calls f8 118 #[u,.int .i64 (i:Int),uv] w fun ex w'=>∃v' B',ex=.returned v'/\aM w w' B/\Kr w' (n+1) (cs.take (i*2)++J++cs.drop (i*2)) v' B'/\∀b,B'=some b->B=some b\/w.heap.size<=b:=by
 obtain⟨O,W,b5⟩:=hO;have hO:Kr w n cs u B:=⟨O,W,b5⟩;obtain⟨y,a0,a8⟩:=a8;have y:J.length=2:=y;rcases a8 with⟨_,h,_⟩ | ⟨vb,vc,varr,rfl,rfl,_,hvc63,hvh,_,hvc⟩
 ·omega
 have b0:∀(k:Nat) v,J[k]?=some v->w.cell? ⟨vb,0+k,none⟩=some v:=fun k v hk=>by rw[m0,eW hvh];exact hvc k v hk
 have d7:(cs.take (i*2)++J++cs.drop (i*2)).length=(n+1)*2:=by rw[i6,i6,w5,v9,O,y];omega
 have c9:∀v∈cs.take (i*2)++J++cs.drop (i*2),v.oneCell'=true:=fun v hv=>by
  rcases n3.1 hv with hv | hv
  ·rcases n3.1 hv with hv | hv
   ·exact W v (K2 hv)
   ·exact a0 v hv
  ·exact W v (D1 hv)
 by_cases a6:i=n
 ·have e0:cs.take (i*2)++J++cs.drop (i*2)=cs++J:=by rw[a6,<- O,F1,List.drop_length,D9]
  rw[e0];have b6:∃base c,u=.slice base n c/\n<=c/\c<=9223372036854775807/\(base=none->c=0):=by
   rcases b5 with⟨_,h0,A,rfl⟩ | ⟨b,cap,arr,rfl,rfl,a5,U,_⟩
   ·exact⟨A,0,by rw[h0],by omega,by omega,fun _=>rfl⟩
   ·exact⟨_,cap,rfl,a5,U,fun h=>by cases h⟩
  obtain⟨base,c,rfl,a5,U,f2⟩:=b6;obtain⟨v',w1,B',k1,k2,k3,k4⟩:=aiH hO vb 0 vc e8 y a0 b0;rw[a6];refine (HH.ins_end base n c vb 0 vc w w1 v' a5 U f2 k1).mono ?_;rintro ex w' ⟨rfl,rfl⟩;exact⟨_,B',rfl,k2,k3,k4⟩
 ·have c7:i<n:=by omega
  rcases b5 with⟨_,h0,_⟩ | ⟨b,cap,arr,rfl,rfl,a5,U,hh,hs,hc⟩
  ·omega
  ·have e7:vb≠b:=by rintro rfl;exact hB _ rfl rfl
   have d6:∀(j:Nat) v,cs[j]?=some v->w.cell? ⟨b,0+j,none⟩=some v:=fun j v hj=>by rw[m0,eW hh];exact hc j v hj
   have d8:(cs.drop (i*2)).length=(n - i)*2:=by rw[v9,O];omega
   by_cases c0:n+1<=cap
   ·have:=HH.ins_shift b 0 n cap i (i+1) vb 0 vc cs J w rfl c7 c0 U e7 O y d6
     (fun j hj=>by rw[m0,eW hh,n8 (by omega)];rfl) (fun j _=>iC hh _) b0 W a0 75 75 varr.size arr.size (by simp[World.shape?,hvh]) (by simp[World.shape?,hh]) (by omega) (iC hvh _) (iC hvh _)
    refine this.mono ?_;rintro ex w' ⟨rfl,rfl⟩;obtain⟨Z,a1,a2,a3,a4⟩:=bP b 75 (0,0) (cs.drop (i*2)) (0+(i+1)*2) w.drew arr hh (by rw[d8,hs];omega);obtain⟨e6,b1,b2,b3,b4⟩:=bP b 75 (0,0) J (0+i*2) _ Z a1 (by rw[y,a2,hs];omega);obtain⟨c1,c2,c3,c4,c5⟩:=bE b (cs.drop (i*2)) (0+(i+1)*2) w.drew;obtain⟨d1,d2,d3,d4,d5⟩:=bE b J (0+i*2) (w.drew.setCells b (0+(i+1)*2) (cs.drop (i*2)));refine⟨_,some b,rfl,⟨d1.trans c1,d2.trans c2,d3.trans c3,D5 (d4.trans c4).symm,fun k _ hk=>(d5 k (fun e=>hk (by rw[e]))).trans (c5 k (fun e=>hk (by rw[e])))⟩,?_,fun b hb=>.inl hb⟩;refine⟨d7,c9,Gv b1 rfl (by rw[b2,a2,hs]) (by omega) U fun k v hk=>?_⟩;rcases NZ O y (by omega) hk with⟨q1,V⟩ | ⟨q1,V,q3⟩ | ⟨q1,V⟩
    ·rw[b3 k (.inl (by omega)),a3 k (.inl (by omega))];exact hc k v V
    ·have:=b4 _ v q3
     rwa [show 0+i*2+(k - i*2)=k from by omega] at this
    ·rw[b3 k (.inr (by rw[y];omega))];have:=a4 _ v V
     rwa [show 0+(i+1)*2+(k - (i+1)*2)=k from by omega] at this
   ·obtain rfl:cap=n:=by omega
    have:=HH.ins_grow b 0 cap i (i+1) vb 0 vc cs J w rfl c7 (by omega) O y d6 b0 W a0;refine this.mono ?_;rintro ex w' ⟨rfl,rfl⟩;have f0:=grownCap_ge w (cap+1) cap 75;have c6:=grownCap_le_maxLen w (cap+1) cap 75 (by unfold maxLen;omega);obtain⟨G,hG⟩:∃G,G=grownCap w (cap+1) cap 75:=⟨_,rfl⟩;rw[<- hG] at f0 c6 ⊢;have e9:HH.zh.cells.size=2:=rfl;obtain⟨M,Y⟩:∃M:Array Value,M=(cs.take (i*2)).toArray++Builtin.zeroCells HH.zh.cells (cap+1 - i)++Builtin.zeroCells HH.zh.cells (G - (cap+1)):=⟨_,rfl⟩;have c8:(cs.take (i*2)).length=i*2:=by rw[w5,O];omega
    have a7:M.size=G*2:=by rw[Y];simp only[D2,B8,c8,size_zeroCells,e9];omega
    have f1:∀(k:Nat) v,k<i*2->cs[k]?=some v->M[k]?=some v:=fun k v hk hv=>by rw[Y,J7,v5 (by simp only[B8,c8];exact hk)];simp[u9,hk,hv]
    rw[<- Y];have hW:((w.alloc (.cells M 75)).drew).heap[w.heap.size]?=some (.cells M 75 (0,0)):=by letI:Low:=Dy;exact gH w _
    obtain⟨Z,a1,a2,a3,a4⟩:=bP w.heap.size 75 (0,0) J (i*2) _ M hW (by rw[y,a7];omega);obtain⟨e6,b1,b2,b3,b4⟩:=bP w.heap.size 75 (0,0) (cs.drop (i*2)) ((i+1)*2) ((((w.alloc (.cells M 75)).drew).setCells w.heap.size (i*2) J).drew) Z a1 (by rw[d8,a2,a7];omega);obtain⟨c1,c2,c3,c4,c5⟩:=bE w.heap.size J (i*2) ((w.alloc (.cells M 75)).drew);obtain⟨d1,d2,d3,d4,d5⟩:=bE w.heap.size (cs.drop (i*2)) ((i+1)*2) ((((w.alloc (.cells M 75)).drew).setCells w.heap.size (i*2) J).drew);refine⟨_,some w.heap.size,rfl,⟨d1.trans c1,d2.trans c2,d3.trans c3,?_,fun k hk _=>(d5 k (by omega)).trans ((c5 k (by omega)).trans (Below.heap_alloc w _ k hk))⟩,?_,fun b hb=>.inr (by injection hb with hb;omega)⟩
    ·refine m8 ?_ (D5 (d4.trans c4).symm);show w.heap.size<=(w.heap.push _).size;rw[Array.size_push];omega
    ·refine⟨d7,c9,Gv b1 rfl (by rw[b2,a2,a7]) (by omega) (by unfold maxLen at c6;omega) fun k v hk=>?_⟩;rcases NZ O y (by omega) hk with⟨q1,V⟩ | ⟨q1,V,q3⟩ | ⟨q1,V⟩
     ·rw[b3 k (.inl (by omega)),a3 k (.inl (by omega))];exact f1 k v q1 V
     ·rw[b3 k (.inl (by omega))];have:=a4 _ v q3
      rwa [show i*2+(k - i*2)=k from by omega] at this
     ·have:=b4 _ v V
      rwa [show (i+1)*2+(k - (i+1)*2)=k from by omega] at this
theorem aaA{w:World}{n i:Nat}{cs:List Value}{u:Value}{B:Option Nat}(V:Kr w n cs u B)(hin:i<n) :
  Calls f8 140 #[u,.int .i64 (i:Int),.int .i64 ((i+1:Nat):Int)] w fun ex w'=>∃v' Z,ex=.returned v'/\aM w w' B/\Kr w' (n - 1) (cs.take (i*2)++cs.drop ((i+1)*2)) v' Z/\∀b,Z=some b->B=some b\/w.heap.size<=b:=by
 obtain⟨J,y,V⟩:=V;rcases V with⟨_,h0,_⟩ | ⟨b,cap,arr,rfl,rfl,hle,h63,hh,hs,hc⟩
 ·omega
 ·have:=HH.del_held b 0 n cap i (i+1) cs w rfl hin hle h63 J (fun j v hj=>by rw[m0,eW hh];exact hc j v hj) (fun j _=>iC hh _) y;refine this.mono ?_;rintro ex w' ⟨rfl,rfl⟩;have O:(cs.drop ((i+1)*2)).length=(n - (i+1))*2:=by rw[v9,J];omega
  obtain⟨W,a1,a2,a3,a4⟩:=bP b 75 (0,0) (cs.drop ((i+1)*2)) (0+i*2) w.drew arr hh (by rw[O,hs];omega);have hz:HH.zh.cells.toList.length=2:=rfl;obtain⟨a6,b1,b2,b3,b4⟩:=bP b 75 (0,0) HH.zh.cells.toList (0+(n - 1)*2) _ W a1 (by rw[hz,a2,hs];omega);obtain⟨c1,c2,c3,c4,c5⟩:=bE b (cs.drop ((i+1)*2)) (0+i*2) w.drew;obtain⟨d1,d2,d3,d4,d5⟩:=bE b HH.zh.cells.toList (0+(n - 1)*2) (w.drew.setCells b (0+i*2) (cs.drop ((i+1)*2)));have M:(cs.take (i*2)).length=i*2:=by rw[w5,J];omega
  have U:(cs.take (i*2)++cs.drop ((i+1)*2)).length=(n - 1)*2:=by rw[i6,M,O];omega
  have a5:∀v∈cs.take (i*2)++cs.drop ((i+1)*2),v.oneCell'=true:=fun v hv=>by
   rcases n3.1 hv with hv | hv
   ·exact y v (K2 hv)
   ·exact y v (D1 hv)
  refine⟨_,some b,rfl,⟨d1.trans c1,d2.trans c2,d3.trans c3,D5 (d4.trans c4).symm,fun k _ hk=>(d5 k (fun e=>hk (by rw[e]))).trans (c5 k (fun e=>hk (by rw[e])))⟩,?_,fun b hb=>.inl hb⟩;refine⟨U,a5,Gv b1 rfl (by rw[b2,a2,hs]) (by omega) h63 fun k v hk=>?_⟩;have a0:=(g7.1 hk).1;rw[U] at a0;rw[b3 k (.inl (by omega))];rw[A5,M] at hk
  split at hk
  ·rename_i Y;rw[a3 k (.inl (by omega))];rw[u9,m6 Y] at hk;exact hc k v hk
  ·have:=a4 (k - i*2) v hk
   rwa [show 0+i*2+(k - i*2)=k from by omega] at this
theorem ve(m:Nat)(cs:List Value):∀a b:List Nat,lG m cs (a++b)=lG m cs a++lG m cs b
 | [],b=>rfl
 | k::a,b=>by rw[J2,lG,lG,ve m cs a b,C0]
theorem lT(m:Nat)(cs:List Value):∀(k a:Nat),lG m cs (List.range' a k)=(cs.drop (a*m)).take (k*m)
 | 0,a=>by rw[K4];rfl
 | k+1,a=>by rw[N3,lG,lT m cs k (a+1),E3 a m,show (k+1)*m=m+k*m from by rw[E3];omega,List.take_add,List.drop_drop]
theorem rh(l:List b8):∀(k a:Nat),a+k<=l.length->(List.range' a k).map (fun k=>l.getD k [])=(l.drop a).take k
 | 0,a,_=>rfl
 | k+1,a,h=>by
  have y:l.drop a=l[a]'(by omega)::l.drop (a+1):=K7 (by omega);rw[N3,w8,rh l k (a+1) (by omega),y,F5]
  congr 1
  rw[g4,g9 (show a<l.length by omega)];rfl
theorem Tb:br f8 75=some [.int .i64,.sl 70]:=by kernel_rfl
theorem adC{n i:Nat}(h:i<=n):(List.range' 0 i ++ [n]++List.range' i (n - i)).Nodup:=by
 rw[K1,K1];refine⟨⟨M6,by simp,fun a y b J=>?_⟩,M6,fun a y b J=>?_⟩
 ·simp only[L0,y5] at y J;omega
 ·simp only[n3,L0,y5] at y J;omega
def kh(h:D)(i:Int)(v:D):D:=.l (h.rows.take i.toNat++v.rows++h.rows.drop i.toNat)
def acs:Ent:=(118,e3 (sd (.sl 75)) ri (sd (.sl 75)) fun p q r=>(⟨.tup [.agg [.any,.any,.any]],[kh (gd p 0) (gd q 0).int (gd r 0)]⟩,inB (gd q 0).int 0 ((gd p 0).rows.length:Int)&&leI ((gd p 0).rows.length:Int) 1000000&&((gd r 0).rows.length==1)))
theorem adK:ay f8 acs:=gW fun p q r h=>by
 have h:(inB (gd q 0).int 0 ((gd p 0).rows.length:Int)&&leI ((gd p 0).rows.length:Int) 1000000&&((gd r 0).rows.length==1))=true:=h;simp only[a9] at h;obtain⟨⟨h1,V⟩,U⟩:=h;have U:(gd r 0).rows.length=1:=by simpa using U
 have V:((gd p 0).rows.length:Int)<=1000000:=i7 V;have h1:0<=(gd q 0).int/\(gd q 0).int<=((gd p 0).rows.length:Int):=by simpa [inB,leI] using h1
 refine aJ.ofX rfl ⟨cB Tryz.func118 (by kernel_rfl) (by kernel_rfl),fun e x n z row J M=>?_⟩;injection J with J hre
 injection hre with he2 hre
 injection hre with he3 hre
 injection J with J hp
 injection J with J
 injection J with J
 injection J with J
 injection J with J
 injection he2 with he2 hq
 subst J hp hq he3;rw[Tb] at M;injection M with M
 subst M;change 0<=n.int/\n.int<=(x.rows.length:Int) at h1;change (x.rows.length:Int)<=1000000 at V;obtain⟨i,hi⟩:∃i:Nat,n.int=(i:Int):=⟨n.int.toNat,by omega⟩;have hin:i<=x.rows.length:=by omega
 refine⟨List.range' 0 i ++ [x.rows.length]++List.range' i (x.rows.length - i),adC hin,fun k hk=>?_,?_,fun w u v B B2 cs cs2 W hB hz=>?_⟩
 ·show k<(x.rows++(gd r 0).rows).length;rw[i6,U];simp only[n3,L0,y5] at hk;omega
 ·show x.rows.take n.int.toNat++(gd r 0).rows++x.rows.drop n.int.toNat=List.map (fun k=>(x.rows++(gd r 0).rows).getD k []) _;rw[hi,g8,y8,y8,rh _ _ _ (by rw[i6];omega),rh _ _ _ (by rw[i6];omega),O5,H7 hin,J5 hin,H7 (by rw[v9];exact i8 _),C9 (show (x.rows.drop i).length<=x.rows.length - i by rw[v9];exact i8 _)]
  congr 2
  obtain⟨y,hy⟩:=List.length_eq_one_iff.1 U;rw[hy];show[y] = [(x.rows ++ [y]).getD x.rows.length []];rw[g4,C3 (i8 _),Nat.sub_self];rfl
 ·rcases hz with⟨h,_⟩ | ⟨_,O⟩
  ·cases h
  ·have O:Kr w (gd r 0).rows.length cs2 v B2:=O;rw[U] at O;have Y:cs.length=x.rows.length*2:=W.1;have a0:cs2.length=2:=by have:=O.1;omega
   rw[hi];refine (aai (show Kr w x.rows.length cs u B from W) O hB (by omega) hin).mono ?_;rintro ex w' ⟨v',B',Z,k2,k3,k4⟩;refine⟨v',B',Z,k2,?_,k4⟩;have e1:(List.range' 0 i ++ [x.rows.length]++List.range' i (x.rows.length - i)).length=x.rows.length+1:=by simp only[i6,List.length_range',n9];omega
   have e2:lG 2 (cs++cs2) (List.range' 0 i ++ [x.rows.length]++List.range' i (x.rows.length - i))=cs.take (i*2)++cs2++cs.drop (i*2):=by
    rw[ve,ve,lT,lT,K4,O5,H7 (by omega),J5 (by omega),H7 (by rw[v9];omega),C9 (show (cs.drop (i*2)).length<=(x.rows.length - i)*2 by rw[v9];omega)]
    congr 2
    show ((cs++cs2).drop (x.rows.length*2)).take 2 ++ []=cs2;rw[D9,<- Y,List.drop_left,C9 (by omega)]
   rw[show ([.int .i64,.sl 70]:List S).length=2 from rfl,e1,e2];exact k3
def og(h:D)(i:Int):D:=.l (h.rows.take i.toNat++h.rows.drop (i.toNat+1))
def ace:Ent:=(140,e3 (sd (.sl 75)) ri ri fun p q r=>(⟨.tup [.agg [.any,.any,.any]],[og (gd p 0) (gd q 0).int]⟩,leI 0 (gd q 0).int&&ltI (gd q 0).int ((gd p 0).rows.length:Int)&&((gd r 0).int==(gd q 0).int+1)))
theorem adq:ay f8 ace:=gW fun p q r h=>by
 have h:(leI 0 (gd q 0).int&&ltI (gd q 0).int ((gd p 0).rows.length:Int)&&((gd r 0).int==(gd q 0).int+1))=true:=h;simp only[a9] at h;obtain⟨⟨h1,O⟩,M⟩:=h;have M:(gd r 0).int=(gd q 0).int+1:=by simpa using M
 have h1:0<=(gd q 0).int:=i7 h1;have O:(gd q 0).int<((gd p 0).rows.length:Int):=i7 O;refine aJ.ofX rfl ⟨cB Tryz.func140 (by kernel_rfl) (by kernel_rfl),fun e x n z row y J=>?_⟩;injection y with y hre
 injection hre with he2 hre
 injection hre with he3 hre
 injection y with y hp
 injection y with y
 injection y with y
 injection y with y
 injection y with y
 injection he2 with he2 hq
 subst y hp hq he3;rw[Tb] at J;injection J with J
 subst J;change 0<=n.int at h1;change n.int<(x.rows.length:Int) at O;change (gd r 0).int=n.int+1 at M;obtain⟨i,hi⟩:∃i:Nat,n.int=(i:Int):=⟨n.int.toNat,by omega⟩;have hin:i<x.rows.length:=by omega
 refine⟨List.range' 0 i++List.range' (i+1) (x.rows.length - (i+1)),?_,fun k hk=>?_,?_,fun w u v B B2 cs cs2 U hB hz=>?_⟩
 ·rw[K1];refine⟨M6,M6,fun a ha b Z=>?_⟩;simp only[L0] at ha Z;omega
 ·show k<(x.rows ++ []).length;rw[D9];simp only[n3,L0] at hk;omega
 ·show x.rows.take n.int.toNat++x.rows.drop (n.int.toNat+1)=List.map (fun k=>(x.rows ++ []).getD k []) _;rw[hi,g8,D9,y8,rh _ _ _ (by omega),rh _ _ _ (by omega),O5,C9 (show (x.rows.drop (i+1)).length<=x.rows.length - (i+1) by rw[v9];exact i8 _)]
 ·rcases hz with⟨_,hv,rfl⟩ | ⟨h,_⟩
  ·have a0:cs.length=x.rows.length*2:=U.1;have hv:v=.int .i64 ((i+1:Nat):Int):=by rw[hv];show Value.int .i64 (gd r 0).int=_;rw[M,hi];rfl
   subst hv;rw[hi];refine (aaA (show Kr w x.rows.length cs u B from U) hin).mono ?_;rintro ex w' ⟨W,Y,V,k2,k3,k4⟩;refine⟨W,Y,V,k2,?_,k4⟩;have e1:(List.range' 0 i++List.range' (i+1) (x.rows.length - (i+1))).length=x.rows.length - 1:=by simp only[i6,List.length_range'];omega
   have e2:lG 2 (cs ++ []) (List.range' 0 i++List.range' (i+1) (x.rows.length - (i+1)))=cs.take (i*2)++cs.drop ((i+1)*2):=by rw[D9,ve,lT,lT,K4,O5,C9 (show (cs.drop ((i+1)*2)).length<=(x.rows.length - (i+1))*2 by rw[v9];omega)]
   rw[show ([.int .i64,.sl 70]:List S).length=2 from rfl,e1,e2];exact k3
  ·cases h
set_option maxRecDepth 4096
set_option maxHeartbeats 1000000
def tz:Ent:=Ow [37,99]
theorem Cr:ay f8 tz:=wY _
abbrev ph:=find [wh,Ab,acI,oC,vG,SR,IX,NC,ahX,VK,yf,qm,ahY,uU,acs,yC,tz]
abbrev pe:=[0,1,2,3,4,8,9,10,11,12,13,36,42,56,78,80]
def dZ(N:Nat)(p q r s:b8):b8->Out:=bb f8 ph N pe Tryz.f25 (.tup [.agg sa,.c (.d si)]) [⟨ag aR,p⟩,⟨ri,q⟩,⟨sd (.sl 41),r⟩,⟨sd (.sl 70),s⟩] 0
theorem mR(N:Nat)(p q r s:b8)(x0 x1 x2 x3 x4 x5 x6 x7 x8 x9 c5 J b2 c2 c8 a3 c7 c9 c1 y a6 b5 b4 a2 d1 b3 a7 c4 b0 c3 a8 a4 b6 b1 a5 x35 c6 c0 a0 U Z a1 V O M Y W:D):(dZ N p q r s) [x0,x1,x2,x3,x4,x5,x6,x7,x8,x9,c5,J,b2,c2,c8,a3,c7,c9,c1,y,a6,b5,b4,a2,d1,b3,a7,c4,b0,c3,a8,a4,b6,b1,a5,x35,c6,c0,a0,U,Z,a1,V,O,M,Y,W] =
 bif ltI y.int (J.rows.length:Int) then bif c1.int==0 then nd (ah y.int J.rows.length) (nd (lK M&&(leI (M.rows.length:Int) 10000&&leI (O.rows.length:Int) 1000000000)) (nx ([x0,x1,x2,x3,x4,x5,x6,x7,x8,x9,c5,J,b2,c2,c8,a3,c7,c9,gd (sub (agQ [a0,U,Z,a1,V,O,M,Y,W] x9 [(gd (J.rows.getD y.int.toNat []) 0),.i (w64 ((gd (J.rows.getD y.int.toNat []) 0).int+1))] (.i 2)) 0 11) 10,.i (w64 (y.int+1)),a6,b5,b4,a2,d1,b3,a7,c4,b0,c3,a8,a4,b6,b1,a5,x35,c6,c0]++sub (sub (agQ [a0,U,Z,a1,V,O,M,Y,W] x9 [(gd (J.rows.getD y.int.toNat []) 0),.i (w64 ((gd (J.rows.getD y.int.toNat []) 0).int+1))] (.i 2)) 0 11) 1 9)))
 else ex 0 [x0,x1,x2,x3,x4,x5,x6,x7,x8,x9,c5,J,b2,c2,c8,a3,c7,c9,c1,y,a6,b5,b4,a2,d1,b3,a7,c4,b0,c3,a8,a4,b6,b1,a5,x35,c6,c0,a0,U,Z,a1,V,O,M,Y,W]
 else ex 0 [x0,x1,x2,x3,x4,x5,x6,x7,x8,x9,c5,J,b2,c2,c8,a3,c7,c9,c1,y,a6,b5,b4,a2,d1,b3,a7,c4,b0,c3,a8,a4,b6,b1,a5,x35,c6,c0,a0,U,Z,a1,V,O,M,Y,W]:=by kernel_rfl
theorem Ec(N:Nat)(p q r s:b8):bf f8 ph N pe Tryz.f25 (.tup [.agg sa,.c (.d si)]) [⟨ag aR,p⟩,⟨ri,q⟩,⟨sd (.sl 41),r⟩,⟨sd (.sl 70),s⟩]=some (bo,
 nd (bG (sub p 0 9)) (bif !(aW (sub p 0 9)) then some (1,[.i 0,.l [],.l [],.l [],.l [],.l [],.l [],.l [],.i 0,.i 1])
 else bif !(inB (gd q 0).int 1 60) then some (1,[.i 0,.l [],.l [],.l [],.l [],.l [],.l [],.l [],.i 0,.i 1])
 else bif ltI 16 ((gd r 0).rows.length:Int) then some (1,[.i 0,.l [],.l [],.l [],.l [],.l [],.l [],.l [],.i 0,.i 1])
 else bif eL (fun J=>jK (.l [[]]) (sub J 0 2)) (gd r 0) then some (1,[.i 0,.l [],.l [],.l [],.l [],.l [],.l [],.l [],.i 0,.i 1])
 else bif !(aL (gd s 0)) then some (1,[.i 0,.l [],.l [],.l [],.l [],.l [],.l [],.l [],.i 0,.i 1])
 else nd (dY (sub p 0 9)) (nd (leI ((gd p 5).rows.length:Int) 1000000000) (bif aC (aF (gd p 5)) (gd q 0).int then some (1,sub (dpS p) 0 9 ++ [.i 0])
 else (let y:=aX (dZ N p q r s) N (sub p 0 9++([gd q 0,gd r 0,gd s 0,.i 0,.i 0,.i 0,.b (!(aL (gd s 0))),.i 0,.b (aC (aF (gd p 5)) (gd q 0).int),.i (rV (sub p 0 9) [gd q 0] [gd r 0] [gd s 0]),.i 0]++(sub p 0 9++([.i 0,.l [],.l [],.l [],.l [],.l [],.l [],.l [],.i 0]++sub (dpS p) 0 9))))
  nd y.isSome (nd (y.code==2) (bif (gd y.pay 18).int==0 then nd (leI ((gd y.pay 23).rows.length:Int) 1000000000&&leI ((gd y.pay 25).rows.length:Int) 1000000000) (bif ltI 60 (w64 ((iQ (sub y.pay 20 9))+(bk (gd y.pay 23) (gd y.pay 11)))) then bif 6 != 0 then nd (dY (sub y.pay 20 9)) (some (1,sub (ddS (sub y.pay 20 9)) 0 9 ++ [.i 6]))
  else nd (leI ((gd y.pay 43).rows.length:Int) 1000000000) (nd (lK (aF (gd y.pay 43))&&leI ((aF (gd y.pay 43)).rows.length:Int) 40000) (nd (leI ((gd y.pay 11).rows.length:Int) 2000000) (nd (inB (bp (aF (gd y.pay 43)) (gd y.pay 9).int:Int) 0 ((gd y.pay 43).rows.length:Int)&&leI ((gd y.pay 43).rows.length:Int) 1000000&&([[gd y.pay 9,.l (gd y.pay 11).rows]].length==1)) (some (1,sub y.pay 38 5 ++ [kh (gd y.pay 43) (bp (aF (gd y.pay 43)) (gd y.pay 9).int:Int) (.l [[gd y.pay 9,.l (gd y.pay 11).rows]]),gd y.pay 44,gd y.pay 45,gd y.pay 46,.i 0])))))
  else bif (gd y.pay 18).int != 0 then nd (dY (sub y.pay 20 9)) (some (1,sub (ddS (sub y.pay 20 9)) 0 9 ++ [gd y.pay 18]))
  else nd (leI ((gd y.pay 43).rows.length:Int) 1000000000) (nd (lK (aF (gd y.pay 43))&&leI ((aF (gd y.pay 43)).rows.length:Int) 40000) (nd (leI ((gd y.pay 11).rows.length:Int) 2000000) (nd (inB (bp (aF (gd y.pay 43)) (gd y.pay 9).int:Int) 0 ((gd y.pay 43).rows.length:Int)&&leI ((gd y.pay 43).rows.length:Int) 1000000&&([[gd y.pay 9,.l (gd y.pay 11).rows]].length==1)) (some (1,sub y.pay 38 5 ++ [kh (gd y.pay 43) (bp (aF (gd y.pay 43)) (gd y.pay 9).int:Int) (.l [[gd y.pay 9,.l (gd y.pay 11).rows]]),gd y.pay 44,gd y.pay 45,gd y.pay 46,.i 0]))))))
  else bif (gd y.pay 18).int != 0 then nd (dY (sub y.pay 20 9)) (some (1,sub (ddS (sub y.pay 20 9)) 0 9 ++ [gd y.pay 18]))
  else nd (leI ((gd y.pay 43).rows.length:Int) 1000000000) (nd (lK (aF (gd y.pay 43))&&leI ((aF (gd y.pay 43)).rows.length:Int) 40000) (nd (leI ((gd y.pay 11).rows.length:Int) 2000000) (nd (inB (bp (aF (gd y.pay 43)) (gd y.pay 9).int:Int) 0 ((gd y.pay 43).rows.length:Int)&&leI ((gd y.pay 43).rows.length:Int) 1000000&&([[gd y.pay 9,.l (gd y.pay 11).rows]].length==1)) (some (1,sub y.pay 38 5 ++ [kh (gd y.pay 43) (bp (aF (gd y.pay 43)) (gd y.pay 9).int:Int) (.l [[gd y.pay 9,.l (gd y.pay 11).rows]]),gd y.pay 44,gd y.pay 45,gd y.pay 46,.i 0])))))))))))):=by kernel_rfl
def bR(p:b8)(n u:D)(c:D):Nat->D × D × D
 | 0=>(.l (gd p 4).rows,.l (gd p 6).rows,c)
 | k+1=>bif (bR p n u c k).2.2.int==0 then
   (bif (gd (dB (bR p n u c k).1 (aF (gd (dpS p) 5)) n (cS u k) (.i 2)) 2).int==2 then ((bR p n u c k).1,(bR p n u c k).2.1,.i 5)
   else bif (gd (dB (bR p n u c k).1 (aF (gd (dpS p) 5)) n (cS u k) (.i 2)) 2).int==3 then ((bR p n u c k).1,(bR p n u c k).2.1,.i 6)
   else (gd (dB (bR p n u c k).1 (aF (gd (dpS p) 5)) n (cS u k) (.i 2)) 0,mA (bR p n u c k).2.1 (gd (dB (bR p n u c k).1 (aF (gd (dpS p) 5)) n (cS u k) (.i 2)) 1) (gd (dB (bR p n u c k).1 (aF (gd (dpS p) 5)) n (cS u k) (.i 2)) 1).rows.length,.i 0))
  else bR p n u c k
theorem qz(p:b8)(n u c:D){k:Nat}(h:((bR p n u c k).2.2.int==0)=false):∀m,bR p n u c (k+m)=bR p n u c k
 | 0=>rfl
 | m+1=>by have y:=qz p n u c h m;rw[show k+(m+1)=(k+m)+1 from rfl,bR,y,h,f9]
theorem Sv(p:b8)(n u c:D)(J:(an (.l (gd p 6).rows)).Pairwise (· < ·)):∀k,(an (bR p n u c k).2.1).Pairwise (· < ·)/\(bR p n u c k).2.1.rows.length<=(gd p 6).rows.length+40*k
 | 0=>⟨J,i8 _⟩
 | k+1=>by
  obtain⟨y,U⟩:=Sv p n u c J k;rw[bR];cases (bR p n u c k).2.2.int==0 with
  | false=>exact⟨y,by rw[f9];omega⟩
  | true =>
   have M:=Yk (bR p n u c k).1 (aF (gd (dpS p) 5)) n (cS u k) (.i 2);generalize dB (bR p n u c k).1 (aF (gd (dpS p) 5)) n (cS u k) (.i 2)=A at *;rw[g6];cases (gd A 2).int==2 with
   | true=>exact⟨y,by rw[g6];dsimp only;omega⟩
   | false =>
    cases (gd A 2).int==3 with
    | true=>exact⟨y,by rw[f9,g6];dsimp only;omega⟩
    | false =>rw[f9,f9];have O:=GR (bR p n u c k).2.1 (gd A 1) (gd A 1).rows.length;exact⟨(zF (t:=gd A 1) y _ (i8 _)).1,by dsimp only;omega⟩
def ox(p:b8)(n z u:D):D:=.i (rV (sub p 0 9) [n] [z] [u])
def Yl(p:b8)(n u:D)(x:D × D × D):b8:=
 bif x.2.2.int==0 then bif ltI 60 (w64 (iQ (sub p 0 9)+bk (gd p 3) u)) then dpS p ++ [.i 6]
  else[gd (dpS p) 0,gd (dpS p) 1,gd (dpS p) 2,gd (dpS p) 3,x.1,kh (gd (dpS p) 5) (bp (aF (gd (dpS p) 5)) n.int:Int) (.l [[n,.l u.rows]]),x.2.1,gd (dpS p) 7,gd (dpS p) 8,.i 0]
 else dpS p ++ [x.2.2]
def prI(p:b8)(n z u:D):b8:=
 bif !(aW (sub p 0 9)) then jI ++ [.i 1]
 else bif !(inB n.int 1 60) then jI ++ [.i 1]
 else bif ltI 16 (z.rows.length:Int) then jI ++ [.i 1]
 else bif eL (fun y=>jK (.l [[]]) (sub y 0 2)) z then jI ++ [.i 1]
 else bif !(aL u) then jI ++ [.i 1]
 else bif aC (aF (gd p 5)) n.int then dpS p ++ [.i 0]
 else Yl p n u (bR p n u (ox p n z u) u.rows.length)
theorem aen{L:b8->Out}(st:Nat->b8)(n:Nat)(G:Nat->Bool)(j:Nat)(h1:∀k,k<n->G k=true->L (st k)=some (0,st (k+1)))(M:∀k,k<n->G k=false->L (st k)=some (j+2,st k))(O:L (st n)=some (j+2,st n)) :
  ∀(m k N:Nat),k+m=n->m<N->∃i,aX L N (st k)=some (j+2,st i)/\i<=n/\(i=n\/G i=false):=by
 intro m
 induction m with
 | zero =>
  intro k N hk V;obtain⟨N,rfl⟩:∃y,N=y+1:=⟨N - 1,by omega⟩;obtain rfl:k=n:=by omega
  exact⟨k,lZ (c:=j+1) O,i8 _,.inl rfl⟩
 | succ m U =>
  intro k N hk V;obtain⟨N,rfl⟩:∃y,N=y+1:=⟨N - 1,by omega⟩;cases J:G k with
  | false=>exact⟨k,lZ (c:=j+1) (M k (by omega) J),by omega,.inr J⟩
  | true =>rw[rR (h1 k (by omega) J)];exact U (k+1) N (by omega) (by omega)
abbrev qy(p q r s:b8)(c:D)(x:D × D × D):b8:= [gd p 0,gd p 1,gd p 2,gd p 3,gd p 4,gd p 5,gd p 6,gd p 7,gd p 8,gd q 0,gd r 0,gd s 0,.i 0,.i 0,.i 0,.b false,.i 0,.b false,x.2.2,c,gd p 0,gd p 1,gd p 2,gd p 3,gd p 4,gd p 5,gd p 6,gd p 7,gd p 8,.i 0,.l [],.l [],.l [],.l [],.l [],.l [],.l [],.i 0,gd (dpS p) 0,gd (dpS p) 1,gd (dpS p) 2,gd (dpS p) 3,x.1,gd (dpS p) 5,x.2.1,gd (dpS p) 7,gd (dpS p) 8]
theorem Zy{p:b8}(h:aW (sub p 0 9)=true):(an (aF (gd (dpS p) 5))).Pairwise (· < ·):=by
 have e:an (aF (gd (dpS p) 5))=(gd p 5).rows.map fun r=>(gd r 0).int:=by rw[eG];unfold an aF;simp only[bd,D6];rfl
 rw[e];have J:=h;simp only[aW,ff,gx,a9,i9,m7] at J;have hw:∀k,k<(gd p 5).rows.length->fK (sub p 0 9) k=true:=by obtain⟨_,_,_,_,_,_,_,_,_,_,_,_,_,_,_,hw,_⟩:=J;exact hw
 have y:∀k,k+1<(gd p 5).rows.length->(gd ((gd p 5).rows.getD k []) 0).int<(gd ((gd p 5).rows.getD (k+1) []) 0).int:=fun k hk=>by have:=hw (k+1) hk;simp only[fK,a9,leI,o8,B9] at this;have:=this.2.1;change ¬(gd ((gd p 5).rows.getD (k+1) []) 0).int<=(gd ((gd p 5).rows.getD k []) 0).int at this;omega
 have hl:∀d i,i+d+1<(gd p 5).rows.length->(gd ((gd p 5).rows.getD i []) 0).int<(gd ((gd p 5).rows.getD (i+d+1) []) 0).int:=fun d=>by
  induction d with
  | zero=>exact fun i hi=>y i hi
  | succ d O=>exact fun i hi=>Int.lt_trans (O i (by omega)) (y (i+d+1) hi)
 refine y6.2 fun i j hi M U=>?_
 rw[r9] at hi M;rw[J3,J3,<- aZ hi,<- aZ M];have:=hl (j - i - 1) i (by omega)
 rwa [show i+(j - i - 1)+1=j from by omega] at this
def akF(p:b8)(y:Out):Out:=nd y.isSome (nd (y.code==2) (bif (gd y.pay 18).int==0 then nd (leI ((gd y.pay 23).rows.length:Int) 1000000000&&leI ((gd y.pay 25).rows.length:Int) 1000000000) (bif ltI 60 (w64 ((iQ (sub y.pay 20 9))+(bk (gd y.pay 23) (gd y.pay 11)))) then bif 6 != 0 then nd (dY (sub y.pay 20 9)) (some (1,sub (ddS (sub y.pay 20 9)) 0 9 ++ [.i 6]))
  else nd (leI ((gd y.pay 43).rows.length:Int) 1000000000) (nd (lK (aF (gd y.pay 43))&&leI ((aF (gd y.pay 43)).rows.length:Int) 40000) (nd (leI ((gd y.pay 11).rows.length:Int) 2000000) (nd (inB (bp (aF (gd y.pay 43)) (gd y.pay 9).int:Int) 0 ((gd y.pay 43).rows.length:Int)&&leI ((gd y.pay 43).rows.length:Int) 1000000&&([[gd y.pay 9,.l (gd y.pay 11).rows]].length==1)) (some (1,sub y.pay 38 5 ++ [kh (gd y.pay 43) (bp (aF (gd y.pay 43)) (gd y.pay 9).int:Int) (.l [[gd y.pay 9,.l (gd y.pay 11).rows]]),gd y.pay 44,gd y.pay 45,gd y.pay 46,.i 0])))))
  else bif (gd y.pay 18).int != 0 then nd (dY (sub y.pay 20 9)) (some (1,sub (ddS (sub y.pay 20 9)) 0 9 ++ [gd y.pay 18]))
  else nd (leI ((gd y.pay 43).rows.length:Int) 1000000000) (nd (lK (aF (gd y.pay 43))&&leI ((aF (gd y.pay 43)).rows.length:Int) 40000) (nd (leI ((gd y.pay 11).rows.length:Int) 2000000) (nd (inB (bp (aF (gd y.pay 43)) (gd y.pay 9).int:Int) 0 ((gd y.pay 43).rows.length:Int)&&leI ((gd y.pay 43).rows.length:Int) 1000000&&([[gd y.pay 9,.l (gd y.pay 11).rows]].length==1)) (some (1,sub y.pay 38 5 ++ [kh (gd y.pay 43) (bp (aF (gd y.pay 43)) (gd y.pay 9).int:Int) (.l [[gd y.pay 9,.l (gd y.pay 11).rows]]),gd y.pay 44,gd y.pay 45,gd y.pay 46,.i 0]))))))
  else bif (gd y.pay 18).int != 0 then nd (dY (sub y.pay 20 9)) (some (1,sub (ddS (sub y.pay 20 9)) 0 9 ++ [gd y.pay 18]))
  else nd (leI ((gd y.pay 43).rows.length:Int) 1000000000) (nd (lK (aF (gd y.pay 43))&&leI ((aF (gd y.pay 43)).rows.length:Int) 40000) (nd (leI ((gd y.pay 11).rows.length:Int) 2000000) (nd (inB (bp (aF (gd y.pay 43)) (gd y.pay 9).int:Int) 0 ((gd y.pay 43).rows.length:Int)&&leI ((gd y.pay 43).rows.length:Int) 1000000&&([[gd y.pay 9,.l (gd y.pay 11).rows]].length==1)) (some (1,sub y.pay 38 5 ++ [kh (gd y.pay 43) (bp (aF (gd y.pay 43)) (gd y.pay 9).int:Int) (.l [[gd y.pay 9,.l (gd y.pay 11).rows]]),gd y.pay 44,gd y.pay 45,gd y.pay 46,.i 0])))))))
theorem ajb(p q r s:b8)(c:D)(x:D × D × D):akF p (some (2,qy p q r s c x))=(bif (x.2.2).int==0 then nd (leI ((gd p 3).rows.length:Int) 1000000000&&leI ((gd p 5).rows.length:Int) 1000000000) (bif ltI 60 (w64 ((iQ (sub p 0 9))+(bk (gd p 3) (gd s 0)))) then bif 6 != 0 then nd (dY (sub p 0 9)) (some (1,sub (dpS p) 0 9 ++ [.i 6]))
  else nd (leI ((gd (dpS p) 5).rows.length:Int) 1000000000) (nd (lK (aF (gd (dpS p) 5))&&leI ((aF (gd (dpS p) 5)).rows.length:Int) 40000) (nd (leI ((gd s 0).rows.length:Int) 2000000) (nd (inB (bp (aF (gd (dpS p) 5)) (gd q 0).int:Int) 0 ((gd (dpS p) 5).rows.length:Int)&&leI ((gd (dpS p) 5).rows.length:Int) 1000000&&([[gd q 0,.l (gd s 0).rows]].length==1)) (some (1,sub (dpS p) 0 4 ++ [x.1,kh (gd (dpS p) 5) (bp (aF (gd (dpS p) 5)) (gd q 0).int:Int) (.l [[gd q 0,.l (gd s 0).rows]]),x.2.1,gd (dpS p) 7,gd (dpS p) 8,.i 0])))))
  else bif (x.2.2).int != 0 then nd (dY (sub p 0 9)) (some (1,sub (dpS p) 0 9 ++ [x.2.2]))
  else nd (leI ((gd (dpS p) 5).rows.length:Int) 1000000000) (nd (lK (aF (gd (dpS p) 5))&&leI ((aF (gd (dpS p) 5)).rows.length:Int) 40000) (nd (leI ((gd s 0).rows.length:Int) 2000000) (nd (inB (bp (aF (gd (dpS p) 5)) (gd q 0).int:Int) 0 ((gd (dpS p) 5).rows.length:Int)&&leI ((gd (dpS p) 5).rows.length:Int) 1000000&&([[gd q 0,.l (gd s 0).rows]].length==1)) (some (1,sub (dpS p) 0 4 ++ [x.1,kh (gd (dpS p) 5) (bp (aF (gd (dpS p) 5)) (gd q 0).int:Int) (.l [[gd q 0,.l (gd s 0).rows]]),x.2.1,gd (dpS p) 7,gd (dpS p) 8,.i 0]))))))
  else bif (x.2.2).int != 0 then nd (dY (sub p 0 9)) (some (1,sub (dpS p) 0 9 ++ [x.2.2]))
  else nd (leI ((gd (dpS p) 5).rows.length:Int) 1000000000) (nd (lK (aF (gd (dpS p) 5))&&leI ((aF (gd (dpS p) 5)).rows.length:Int) 40000) (nd (leI ((gd s 0).rows.length:Int) 2000000) (nd (inB (bp (aF (gd (dpS p) 5)) (gd q 0).int:Int) 0 ((gd (dpS p) 5).rows.length:Int)&&leI ((gd (dpS p) 5).rows.length:Int) 1000000&&([[gd q 0,.l (gd s 0).rows]].length==1)) (some (1,sub (dpS p) 0 4 ++ [x.1,kh (gd (dpS p) 5) (bp (aF (gd (dpS p) 5)) (gd q 0).int:Int) (.l [[gd q 0,.l (gd s 0).rows]]),x.2.1,gd (dpS p) 7,gd (dpS p) 8,.i 0])))))):=rfl
def wP:Ent:=(25,e4 (ag aR) ri (sd (.sl 41)) (sd (.sl 70)) fun p q r s=>(⟨.tup [.agg sa,.c (.d si)],sub (prI p (gd q 0) (gd r 0) (gd s 0)) 0 10⟩,bG p))
theorem EF:ay f8 wP:=Bc fun p q r s h=>au (N:=(gd s 0).rows.length+1) (ks:=pe) (al (fC ⟨vX,fC ⟨tM,fC ⟨adl,fC ⟨nu,fC ⟨yL,fC ⟨Xh,fC ⟨QQ,fC ⟨DD,fC ⟨ahS,fC ⟨SN,fC ⟨Bm,fC ⟨np,fC ⟨acG,fC ⟨yY,fC ⟨adK,fC ⟨xF,fC ⟨Cr,fN⟩⟩⟩⟩⟩⟩⟩⟩⟩⟩⟩⟩⟩⟩⟩⟩⟩)) Tryz.func25 fun hw=>by
 rw[Ec];have a7:=fi (hw ⟨sd (.sl 70),s⟩ (by simp));have h:bG (sub p 0 9)=true:=h;refine congrArg (fun x=>some (bo,x)) ?_;change _=some (1,sub (prI p (gd q 0) (gd r 0) (gd s 0)) 0 10);unfold prI;rw[h,aU];cases hsh:aW (sub p 0 9) with
 | false=>rfl
 | true =>
 rw[n4,f9,f9];cases hin:inB (gd q 0).int 1 60 with
 | false=>rfl
 | true =>
 rw[n4,f9,f9];cases hz:ltI 16 ((gd r 0).rows.length:Int) with
 | true=>rfl
 | false =>
 rw[f9,f9];cases b0:eL (fun rr=>jK (.l [[]]) (sub rr 0 2)) (gd r 0) with
 | true=>rfl
 | false =>
 rw[f9,f9];cases hwo:aL (gd s 0) with
 | false=>rfl
 | true =>
 obtain⟨_,b2,U,a1,M,_⟩:=dF hsh;have U:(gd p 5).rows.length<=60:=U;have a1:(gd p 6).rows.length<=60:=a1;have M:(an (.l (gd p 6).rows)).Pairwise (· < ·):=adA (z:=gd p 6) M;have a8:=kM hwo;have h5:leI ((gd p 5).rows.length:Int) 1000000000=true:=bi (by omega);have b3:(gd (dpS p) 5).rows.length<=60:=m8 (jy _ _ _) U;have a0:leI ((gd (dpS p) 5).rows.length:Int) 1000000000=true:=bi (by omega);rw[n4,f9,f9,gr hsh,h5,aU,aU];cases b1:aC (aF (gd p 5)) (gd q 0).int with
 | true=>rfl
 | false =>
 rw[f9,f9];generalize hN:(gd s 0).rows.length+1=N;obtain⟨i,J,a5,y⟩:=aen (L:=dZ N p q r s) (st:=fun k=>qy p q r s (.i (k:Int)) (bR p (gd q 0) (gd s 0) (ox p (gd q 0) (gd r 0) (gd s 0)) k)) (gd s 0).rows.length (fun k=>(bR p (gd q 0) (gd s 0) (ox p (gd q 0) (gd r 0) (gd s 0)) k).2.2.int==0) 0 (fun k hk O=>by
  show dZ _ p q r s [_,_,_,_,_,_,_,_,_,_,_,_,_,_,_,_,_,_,_,.i (k:Int),_,_,_,_,_,_,_,_,_,_,_,_,_,_,_,_,_,_,_,_,_,_,_,_,_,_,_]=_;rw[mR];obtain⟨m1,m2⟩:=Sv p (gd q 0) (gd s 0) (ox p (gd q 0) (gd r 0) (gd s 0)) M k;rw[bR];generalize bR p (gd q 0) (gd s 0) (ox p (gd q 0) (gd r 0) (gd s 0)) k=X at *;obtain⟨Z,X2,W⟩:=X;dsimp only at O m1 m2 ⊢;simp only[aA,di hk,bu hk,aG hk a7,g8,O,g6,a0,CE m1,bi (show (X2.rows.length:Int)<=10000 by omega),u5,aU];unfold agQ;rw[show ∀l w a,Fx [gd (dpS p) 0,gd (dpS p) 1,gd (dpS p) 2,gd (dpS p) 3,l,gd (dpS p) 5,w,gd (dpS p) 7,gd (dpS p) 8] (gd q 0) a (.i 2)=dB l (aF (gd (dpS p) 5)) (gd q 0) (sub a 0 2) (.i 2) from fun _ _ _=>rfl];rw[show dB Z (aF (gd (dpS p) 5)) (gd q 0) (sub [gd ((gd s 0).rows.getD k []) 0,.i (w64 ((gd ((gd s 0).rows.getD k []) 0).int+1))] 0 2) (.i 2)=dB Z (aF (gd (dpS p) 5)) (gd q 0) (cS (gd s 0) k) (.i 2) from rfl];generalize dB Z (aF (gd (dpS p) 5)) (gd q 0) (cS (gd s 0) k) (.i 2)=AA;cases (gd AA 2).int==2 with
  | true=>rfl
  | false =>
   cases (gd AA 2).int==3 with
   | true=>rfl
   | false=>rfl) (fun k hk O=>by
  show dZ _ p q r s [_,_,_,_,_,_,_,_,_,_,_,_,_,_,_,_,_,_,_,.i (k:Int),_,_,_,_,_,_,_,_,_,_,_,_,_,_,_,_,_,_,_,_,_,_,_,_,_,_,_]=_;rw[mR];generalize bR p (gd q 0) (gd s 0) (ox p (gd q 0) (gd r 0) (gd s 0)) k=X at *;obtain⟨Z,X2,W⟩:=X;dsimp only at O ⊢;simp only[aA,di hk,O,f9]) (by
  show dZ _ p q r s [_,_,_,_,_,_,_,_,_,_,_,_,_,_,_,_,_,_,_,.i ((gd s 0).rows.length:Int),_,_,_,_,_,_,_,_,_,_,_,_,_,_,_,_,_,_,_,_,_,_,_,_,_,_,_]=_;rw[mR];simp only[aA,ca]) (gd s 0).rows.length 0 N (m0 _) (by omega)
 simp only[j9] at J;have J:aX (dZ N p q r s) N (qy p q r s (.i 0) (.l (gd p 4).rows,.l (gd p 6).rows,ox p (gd q 0) (gd r 0) (gd s 0)))=_:=J;have ei:bR p (gd q 0) (gd s 0) (ox p (gd q 0) (gd r 0) (gd s 0)) i=bR p (gd q 0) (gd s 0) (ox p (gd q 0) (gd r 0) (gd s 0)) (gd s 0).rows.length:=by
  rcases y with y | y
  ·rw[y]
  ·obtain⟨m,hm⟩:=Nat.le.dest a5;rw[<- hm,qz p (gd q 0) (gd s 0) (ox p (gd q 0) (gd r 0) (gd s 0)) y m]
 rw[ei] at J;generalize bR p (gd q 0) (gd s 0) (ox p (gd q 0) (gd r 0) (gd s 0)) (gd s 0).rows.length=X at *;have a2:=LS (z:=aF (gd (dpS p) 5)) (Zy hsh) (gd q 0).int;have V:(aF (gd (dpS p) 5)).rows.length=(gd (dpS p) 5).rows.length:=r9 ..;have a3:(lK (aF (gd (dpS p) 5))&&leI ((aF (gd (dpS p) 5)).rows.length:Int) 40000)=true:=by rw[CE (Zy hsh),y7,V];exact bi (by omega)
 have a4:(inB (bp (aF (gd (dpS p) 5)) (gd q 0).int:Int) 0 ((gd (dpS p) 5).rows.length:Int)&&leI ((gd (dpS p) 5).rows.length:Int) 1000000&&(([[gd q 0,D.l (gd s 0).rows]]:List b8).length==1))=true:=by rw[bi (show ((gd (dpS p) 5).rows.length:Int)<=1000000 by omega)];have h1:=a2.1;rw[V] at h1;unfold inB;rw[B3 (show (bp (aF (gd (dpS p) 5)) (gd q 0).int:Int)>=0 by omega),B3 (show (bp (aF (gd (dpS p) 5)) (gd q 0).int:Int)<=((gd (dpS p) 5).rows.length:Int) by omega)];rfl
 have a6:leI ((gd s 0).rows.length:Int) 2000000=true:=bi (by omega);have Y:leI ((gd p 3).rows.length:Int) 1000000000=true:=bi (by have Y:=(dF hsh).2.2.2.2.2.1;simp only[aN,a9,leI,g5] at Y;have Y:((gd p 3).rows.length:Int)<=60:=Y.2;omega);change (let o0:=aX (dZ N p q r s) N (qy p q r s (.i 0) (.l (gd p 4).rows,.l (gd p 6).rows,ox p (gd q 0) (gd r 0) (gd s 0)));akF p o0)=_;rw[J,ajb];unfold Yl;obtain⟨Z,X2,W⟩:=X;dsimp only;rw[Y,h5,gr hsh,a0,a3,a6,a4];simp only[aU,u5];simp only[show ((6:Int) != 0)=true from rfl,show ((6:Nat) != 0)=true from rfl,g6];simp only[show (W.int != 0) = !(W.int==0) from rfl];cases W.int==0 with
 | true =>cases ltI 60 (w64 (iQ (sub p 0 9)+bk (gd p 3) (gd s 0))) <;> rfl
 | false=>rfl
theorem Mp(z:D):eL (fun y=>jK (.l [[]]) (sub y 0 2)) z = !nA z:=by unfold eL nA;exact Tw _ fun k _=>rfl
theorem aeF{p:b8}(h:aW (sub p 0 9)=true){k:Nat}(hk:k<(gd p 5).rows.length):hJ (sub p 0 9) k=true:=by
 simp only[aW,ff,gx,a9,i9,m7] at h;obtain⟨_,_,_,_,_,_,_,_,_,_,_,_,_,_,_,hw,_⟩:=h;have:=hw k hk;cases k with
 | zero=>simp only[fK,a9] at this;exact this.2
 | succ k=>simp only[fK,a9] at this;exact this.2.2
theorem ajf{p:b8}(h:aW (sub p 0 9)=true){n:Int}(O:ii (gd p 5) n=true):aC (gd p 6) n=false/\aC (gd p 7) n=false:=by
 unfold ii at O;obtain⟨k,hk,e⟩:=D3.1 O;have hk:=m7.1 hk;have e:(gd ((gd p 5).rows.getD k []) 0).int=n:=by simpa using e
 have y:=aeF h hk;simp only[hJ,a9,o8] at y;have J:aC (gd p 6) (gd ((gd p 5).rows.getD k []) 0).int=false:=y.2.2.1;have M:aC (gd p 7) (gd ((gd p 5).rows.getD k []) 0).int=false:=y.2.2.2;rw[e] at J M;exact⟨J,M⟩
theorem Tg(p:b8):aF (gd (dpS p) 5)=aF (gd p 5):=by rw[eG];unfold aF;rw[bd,D6];rfl
theorem Lo{u:D}(h:aL u=true){k:Nat}(hk:k<u.rows.length):ax (cS u k)=true:=Xb (q:=u.rows.getD k []) (zR h hk).1
theorem afI{l h n:D}{a:b8}(y:bN [l] [h] [n] (sub a 0 2) [.i 2]=true):(gd (dB l h n a (.i 2)) 2).int=0\/(gd (dB l h n a (.i 2)) 2).int=2\/(gd (dB l h n a (.i 2)) 2).int=3:=by
 unfold dB;rw[y];cases bV l n (sub a 0 2) (.i 2) with
 | true=>exact .inl rfl
 | false =>
  cases ltI 0 ((clW l h (bW n a (.i 2))).rows.length:Int) with
  | true=>exact .inr (.inl rfl)
  | false =>
   cases ((cO l (bW n a (.i 2))).rows.length:Int)==40 with
   | true=>exact .inr (.inr rfl)
   | false=>exact .inl rfl
theorem akm{a b:D}(e:a.rows.map nrm=b.rows.map nrm){f:D}(h:∀r∈b.rows,aC f (gd r 0).int=false):∀r∈a.rows,aC f (gd r 0).int=false:=by
 intro r O;have:nrm r∈b.rows.map nrm:=by rw[<- e];exact List.mem_map_of_mem O
 obtain⟨y,J,U⟩:=A8.1 this;have M:gd y 0=gd r 0:=by have:=congrArg (fun x=>gd x 0) U;exact this
 rw[<- M];exact h y J
section
variable {p:b8} {n u:D} (hsh:aW (sub p 0 9)=true) (hin:inB n.int 1 60=true) (hwo:aL u=true)
include hsh hin hwo
theorem Nx{l:D}(hl:aY l=true){k:Nat}(hk:k<u.rows.length):bN [l] [aF (gd p 5)] [n] (sub (cS u k) 0 2) [.i 2]=true:=by obtain⟨_,_,y,_⟩:=dF hsh;have y:(gd p 5).rows.length<=60:=y;rw[un,hl,hin,show ax (sub (sub (cS u k) 0 2) 0 2)=ax (cS u k) from rfl,Lo hwo hk,bi (show ((aF (gd p 5)).rows.length:Int)<=60 by unfold aF;rw[bd,r9];omega)];rfl
theorem Pg:∀k,k<=u.rows.length->(∀j,j<k->(iD p n u j).int=0)->(bR p n u (.i 0) k).2.2.int=0/\(bR p n u (.i 0) k).2.1=(dm p n u k).2/\(bR p n u (.i 0) k).1.rows.map nrm=(dm p n u k).1.rows.map nrm/\aY (dm p n u k).1=true
 | 0,_,_=>⟨rfl,rfl,rfl,(dF hsh).1⟩
 | k+1,hk,h0=>by
  obtain⟨i1,i2,i3,i4⟩:=Pg k (by omega) (fun j hj=>h0 j (by omega));have V:=Nx hsh hin hwo i4 (show k<u.rows.length by omega);obtain⟨a1,a2,a3⟩:=acu i3 (aF (gd p 5)) n (cS u k) (.i 2);obtain⟨Z,O,M⟩:=Yd V;have hc:=h0 k (by omega);unfold iD at hc;have hn:=aiF (dm p n u k).1 (aF (gd p 5)) n (cS u k) (.i 2);have W:=ahn V;obtain⟨w1,w2⟩:=RV (gd (ed (dm p n u k).1 (aF (gd p 5)) n (cS u k) (.i 2)) 0) (dm p n u k).2 (gd (ed (dm p n u k).1 (aF (gd p 5)) n (cS u k) (.i 2)) 1) (gd (ed (dm p n u k).1 (aF (gd p 5)) n (cS u k) (.i 2)) 1).rows.length;have y:=akm M hn;rw[<- O] at y;have U:=abg y;have J:(dm p n u (k+1)).1.rows.map nrm=(gd (ed (dm p n u k).1 (aF (gd p 5)) n (cS u k) (.i 2)) 0).rows.map nrm:=w1.trans U;have Y:bR p n u (.i 0) (k+1)=(gd (dB (bR p n u (.i 0) k).1 (aF (gd p 5)) n (cS u k) (.i 2)) 0,mA (bR p n u (.i 0) k).2.1 (gd (dB (bR p n u (.i 0) k).1 (aF (gd p 5)) n (cS u k) (.i 2)) 1) (gd (dB (bR p n u (.i 0) k).1 (aF (gd p 5)) n (cS u k) (.i 2)) 1).rows.length,.i 0):=by rw[bR,i1,Tg,a1,<- Z,hc];rfl
  rw[Y];refine⟨rfl,?_,?_,?_⟩
  ·show mA (bR p n u (.i 0) k).2.1 _ _=(dm p n u (k+1)).2;rw[show (dm p n u (k+1)).2=(gh (gd (ed (dm p n u k).1 (aF (gd p 5)) n (cS u k) (.i 2)) 0) (dm p n u k).2 (gd (ed (dm p n u k).1 (aF (gd p 5)) n (cS u k) (.i 2)) 1) (gd (ed (dm p n u k).1 (aF (gd p 5)) n (cS u k) (.i 2)) 1).rows.length).2 from rfl,w2,i2,a2,<- O]
  ·show (gd (dB (bR p n u (.i 0) k).1 (aF (gd p 5)) n (cS u k) (.i 2)) 0).rows.map nrm=_;rw[J,a3,M]
  ·rw[YI (J.trans M)];exact W
theorem aev{k:Nat}(hk:k<u.rows.length)(V:∀j,j<k->(iD p n u j).int=0)(h1:(iD p n u k).int≠0):(bR p n u (.i 0) u.rows.length).2.2=.i (eT [iD p n u k])/\eT [iD p n u k]≠0:=by
 obtain⟨W,Z,O,U⟩:=Pg hsh hin hwo k (by omega) V;have M:=Nx hsh hin hwo U hk;obtain⟨Y,_,_⟩:=acu O (aF (gd p 5)) n (cS u k) (.i 2);obtain⟨J,_,_⟩:=Yd M;have hc:=afI M;rw[<- J] at hc;change (iD p n u k).int=0\/(iD p n u k).int=2\/(iD p n u k).int=3 at hc;have e1:(gd (dB (bR p n u (.i 0) k).1 (aF (gd p 5)) n (cS u k) (.i 2)) 2)=iD p n u k:=Y.trans J.symm;have key:(bR p n u (.i 0) (k+1)).2.2=.i (eT [iD p n u k])/\eT [iD p n u k]≠0:=by
  rw[bR,W,Tg,e1];unfold eT;rw[show gd [iD p n u k] 0=iD p n u k from rfl];rcases hc with hc | hc | hc
  ·exact absurd hc h1
  ·rw[hc];exact⟨rfl,by decide⟩
  ·rw[hc];exact⟨rfl,by decide⟩
 obtain⟨m,hm⟩:=Nat.le.dest (show k+1<=u.rows.length by omega);have y:=qz p n u (.i 0) (k:=k+1) (by rw[key.1];exact E9.2 key.2) m;rw[hm] at y;rw[y];exact key
end
theorem akY{h n:D}{v:b8}{i:Nat}(hi:i<=h.rows.length)(h1:∀k,k<i->(gd (h.rows.getD k []) 0).int<n.int)(O:∀k,i<=k->k<h.rows.length->n.int<(gd (h.rows.getD k []) 0).int)(V:∀r∈h.rows,sub r 0 2=r) :
  ∀k,k<=h.rows.length->hS h n v k=bif ltI (i:Int) (k:Int) then (h.rows.take i ++ [v]++(h.rows.drop i).take (k - i),true) else (h.rows.take k,false)
 | 0,_=>by rw[iI (by omega)];rfl
 | k+1,hk=>by
  have Y:=akY (v:=v) hi h1 O V k (by omega);have y:k<h.rows.length:=by omega
  have M:sub (h.rows.getD k []) 0 2=h.rows[k]:=by rw[aZ y];exact V _ (v6 y)
  rw[hS,Y,M];by_cases U:i<k
  ·have e1:(h.rows.drop i).take (k+1 - i)=(h.rows.drop i).take (k - i) ++ [h.rows[k]]:=by rw[show k+1 - i=k - i+1 from by omega,H9,A6,show i+(k - i)=k from by omega,g9 y];rfl
   rw[gy U,gy (show i<k+1 by omega),e1];simp[C0]
  ·by_cases W:i=k
   ·subst W;have J:=O i (i8 _) y;rw[aaH,gy (show i<i+1 by omega),f9,lp J,show i+1 - i=1 from by omega,K7 y];rfl
   ·have J:=h1 k (by omega);rw[iI (show (k:Int)<=(i:Int) by omega),iI (show ((k+1:Nat):Int)<=(i:Int) by omega),f9,f9,iI (show (gd (h.rows.getD k []) 0).int<=n.int by omega),H9,g9 y];rfl
theorem aft{p:b8}(hsh:aW (sub p 0 9)=true){n u:D}(Z:ii (gd p 5) n.int=false) :
  JK (gd (dpS p) 5) n [n,.l u.rows]=kh (gd (dpS p) 5) (bp (aF (gd (dpS p) 5)) n.int:Int) (.l [[n,.l u.rows]]):=by
 obtain⟨Y,l2,W⟩:=LS (z:=aF (gd (dpS p) 5)) (Zy hsh) n.int;have V:∀r∈(gd (dpS p) 5).rows,(gd r 0).int≠n.int:=fun r J e=>by
  have:aC (aF (gd (dpS p) 5)) n.int=true:=by rw[En,uA];exact⟨r,J,e⟩
  rw[ajy] at this;change ii (gd p 5) n.int=true at this;rw[Z] at this;cases this
 have U:∀r∈(gd (dpS p) 5).rows,sub r 0 2=r:=fun r J=>by rw[eG] at J;obtain⟨x,_,rfl⟩:=A8.1 J;rfl
 generalize gd (dpS p) 5=h at *;have M:(aF h).rows.length=h.rows.length:=r9 ..;rw[M] at Y W;have y:∀k,k<h.rows.length->bT (aF h) k=(gd (h.rows.getD k []) 0).int:=fun k hk=>by show (gd ((h.rows.map fun r => [gd r 0]).getD k []) 0).int=_;rw[g4,w9,g9 hk,aZ hk];rfl
 generalize bp (aF h) n.int=i at *;have O:=akY (h:=h) (n:=n) (v:= [n,.l u.rows]) Y (fun k hk=>by rw[<- y k (by omega)];exact l2 k hk) (fun k hk hl=>by have a:=W k hk hl;rw[y k hl] at a;have b:=V (h.rows.getD k []) (by rw[aZ hl];exact v6 hl);omega) U h.rows.length (i8 _);unfold JK kh;rw[O,g8];by_cases hi:i<h.rows.length
 ·rw[gy hi,g6,C9 (show (h.rows.drop i).length<=h.rows.length - i by rw[v9];exact i8 _)];rfl
 ·obtain rfl:i=h.rows.length:=by omega
  rw[aaH,f9,F1,List.drop_length,D9];rfl
theorem ajA{p:b8}(hsh:aW (sub p 0 9)=true)(u:D):ltI 60 (w64 (iQ (sub p 0 9)+bk (gd p 3) u))=Kb p u:=by unfold Kb;have h:iQ (sub p 0 9)=((gd p 3).rows.length:Int)+eI (gd p 3) (gd p 5) (gd p 5).rows.length:=rfl;obtain⟨_,_,y,_⟩:=dF hsh;have y:(gd p 5).rows.length<=60:=y;have h1:=qc (gd p 3) (gd p 5) (gd p 5).rows.length;have J:=(dF hsh).2.2.2.2.2.1;simp only[aN,a9,leI,g5] at J;have J:((gd p 3).rows.length:Int)<=60:=J.2;rw[h,bD (x:=((gd p 3).rows.length:Int)+eI (gd p 3) (gd p 5) (gd p 5).rows.length) (by omega) (by omega)]
theorem yi(p:b8)(n u:D){c:Int}(hc:c≠0):Yl p n u (bR p n u (.i c) u.rows.length)=dpS p ++ [.i c]:=by
 have y:(c==0)=false:=by simpa using hc
 have:=qz p n u (.i c) (k:=0) y u.rows.length;rw[m0] at this;rw[this];show (bif (c==0) then _ else _)=_;rw[y,f9];rfl
theorem adw(p:b8)(n z u:D):LD (sub (sub (prI p n z u) 0 10) 0 9) (sub (sub (prS p n z u) 0 10) 0 9)=true/\(gd (sub (prI p n z u) 0 10) 9).int=(gd (sub (prS p n z u) 0 10) 9).int:=by
 have same:∀ {x y:b8},x=y->LD (sub (sub x 0 10) 0 9) (sub (sub y 0 10) 0 9)=true/\(gd (sub x 0 10) 9).int=(gd (sub y 0 10) 9).int:=fun e=>by rw[e];exact⟨Ux _,rfl⟩
 unfold prI prS qq;rw[Mp];cases hsh:aW (sub p 0 9) with
 | false=>exact same rfl
 | true =>
 cases hin:inB n.int 1 60 with
 | false=>exact same rfl
 | true =>
 cases hz:leI (z.rows.length:Int) 16 with
 | false =>rw[show ltI 16 (z.rows.length:Int)=true from by simp only[leI,B9] at hz;exact lp (by omega)];exact same rfl
 | true =>
 rw[show ltI 16 (z.rows.length:Int)=false from by simp only[leI,g5] at hz;exact iI (by omega)];cases O:nA z with
 | false =>cases aL u <;> exact same rfl
 | true =>
 cases hwo:aL u with
 | false=>exact same rfl
 | true =>
 simp only[u5,n4,f9];rw[En];cases ht:ii (gd p 5) n.int with
 | true =>obtain⟨h6,h7⟩:=ajf hsh ht;rw[h7];exact same rfl
 | false =>
 rw[f9];obtain⟨J,a5,a4,a6,a2,a3,a1,Z⟩:=dF hsh;have J:aY (gd p 4)=true:=J;have a0:∀k,k<z.rows.length->ax (sub (z.rows.getD k []) 0 2)=true:=fun k hk=>by unfold nA at O;exact i9.1 O k (m7.2 hk)
 have M:ox p n z u=.i (bif aC (gd p 7) n.int then 2 else bif aC (gd p 6) n.int then 3 else bif !ia p n z then 7 else bif !iF p u then 4 else 0):=by rw[<- Sn (p:=p) (tx:=n) (z:=z) J a0,<- Ss (p:=p) (z:=u) a1 Z (fun k hk=>Lo hwo hk)];rfl
 rw[M];cases aC (gd p 7) n.int with
 | true=>exact same (yi p n u (c:=2) (by decide))
 | false =>
 cases aC (gd p 6) n.int with
 | true=>exact same (yi p n u (c:=3) (by decide))
 | false =>
 cases ia p n z with
 | false=>exact same (yi p n u (c:=7) (by decide))
 | true =>
 cases iF p u with
 | false=>exact same (yi p n u (c:=4) (by decide))
 | true =>
 simp only[n4,f9,g6];cases hf:(List.range u.rows.length).find? (fun k=>(iD p n u k).int != 0) with
 | some k =>
  obtain⟨hp,i,hi,e,V⟩:=List.find?_eq_some_iff_getElem.1 hf;rw[I4] at hi;rw[L3] at e;subst e;have U:∀j,j<i->(iD p n u j).int=0:=fun j Y=>by have:=V j Y;rw[L3] at this;simpa using this
  obtain⟨k1,k2⟩:=aev hsh hin hwo hi U (by simpa using hp);refine same ?_;unfold Yl;rw[k1];rw[show ((D.i (eT [iD p n u i])).int==0)=false from E9.2 k2];rfl
 | none =>
  have U:∀j,j<u.rows.length->(iD p n u j).int=0:=fun j Y=>by have:=List.find?_eq_none.1 hf j (m7.2 Y);simpa using this
  obtain⟨i1,i2,i3,_⟩:=Pg hsh hin hwo u.rows.length (i8 _) U;unfold Yl aeJ;rw[i1,ajA hsh,i2,aft hsh ht];rw[show ((0:Int)==0)=true from rfl,g6];dsimp only;cases Kb p u with
  | true=>exact same rfl
  | false =>refine⟨?_,rfl⟩;simp only[f9];generalize (bR p n u (.i 0) u.rows.length).1=L at *;generalize (dm p n u u.rows.length).1=l at *;generalize (dm p n u u.rows.length).2=W;generalize kh _ _ _=H;show (((gd p 0).int==(gd p 0).int)&&(xJ (.l (gd p 1).rows) (.l (gd p 1).rows)&&(xJ (.l (gd p 2).rows) (.l (gd p 2).rows)&&(UU (.l (gd p 3).rows) (.l (gd p 3).rows)&&(DA L l&&(Vd H H&&(PN W W&&(PN (.l (gd p 7).rows) (.l (gd p 7).rows)&&(((gd p 8).int==(gd p 8).int)&&true)))))))))=true;rw[VP i3,nG,nG,EN,DN,sn,sn,s9,s9];rfl
theorem tV{z:D}{C:b8->Bool}:((List.range z.rows.length).all fun k=>C (z.rows.getD k []))=true↔∀r∈z.rows,C r=true:=by
 rw[i9];constructor
 ·intro h r y;obtain⟨k,hk,rfl⟩:=t9 y;have:=h k (m7.2 hk)
  rwa [aZ hk] at this
 ·intro h k hk;have hk:=m7.1 hk;rw[aZ hk];exact h _ (v6 hk)
theorem ail{z:D}{C:b8->Bool}:((List.range z.rows.length).any fun k=>C (z.rows.getD k []))=true↔∃r∈z.rows,C r=true:=by
 rw[D3];constructor
 ·rintro⟨k,hk,h⟩;have hk:=m7.1 hk;rw[aZ hk] at h;exact⟨_,v6 hk,h⟩
 ·rintro⟨r,y,h⟩;obtain⟨k,hk,rfl⟩:=t9 y;exact⟨k,m7.2 hk,by rw[aZ hk];exact h⟩
theorem za{f:Nat->Int}{n:Nat}(h:∀k,k+1<n->f k<f (k+1)):∀j i,i<j->j<n->f i<f j
 | 0,_,h1,_=>by omega
 | j+1,i,h1,h2=>by
  have a:=h j h2;by_cases e:i=j
  ·rw[e];exact a
  ·have:=za h j i (by omega) (by omega);omega
theorem zT{z:D}:(an z).Pairwise (· < ·)↔∀k,k+1<z.rows.length->(gd (z.rows.getD k []) 0).int<(gd (z.rows.getD (k+1) []) 0).int:=by
 constructor
 ·intro h k hk;have h1:=dC z k (by omega);have U:=dC z (k+1) hk;obtain⟨M,e1⟩:=g7.1 h1;obtain⟨O,e2⟩:=g7.1 U;rw[<- e1,<- e2];exact y6.1 h k (k+1) M O (by omega)
 ·intro h;refine y6.2 fun i j hi y J=>?_
  rw[cr] at hi y;obtain⟨M,e1⟩:=g7.1 (dC z i hi);obtain⟨O,e2⟩:=g7.1 (dC z j y);rw[e1,e2];exact za (f:=fun k=>(gd (z.rows.getD k []) 0).int) h j i J y
theorem Ud(z:D):gF z=true↔(an z).Pairwise (· < ·)/\∀r∈z.rows,inB (gd r 0).int 1 60=true:=by
 unfold gF;rw[zT,<- tV (C:=fun r=>inB (gd r 0).int 1 60)];simp only[i9,m7];constructor
 ·intro h;refine⟨fun k hk=>?_,fun k hk=>?_⟩
  ·have:=h (k+1) hk;simp only[mE,a9,leI,o8,B9] at this;omega
  ·have:=h k hk;cases k with
   | zero=>exact this
   | succ k=>simp only[mE,a9] at this;exact this.1
 ·rintro⟨h1,y⟩ k hk;cases k with
  | zero=>exact y 0 hk
  | succ k =>simp only[mE,a9,leI,o8,B9];have:=h1 k hk;exact⟨y (k+1) hk,by omega⟩
theorem sY{z:D}{n:Int}:aC z n=false↔n ∉ an z:=by rw[<- fW,G8]
theorem Cw{z:D}{n:Int}:ii z n=true↔n∈an z:=by rw[uA,dS]
structure HOk(l w e:D)(r:b8):Prop where
 tx:inB (gd r 0).int 1 60=true
 ws:aL (gd r 1)=true
 lk:∀v∈(gd r 1).rows,holds l (gd r 0) (fu v) (.i 2)=true
 nw:(gd r 0).int ∉ an w
 ne:(gd r 0).int ∉ an e
structure LOk(o w e:D)(r:b8):Prop where
 rg:aT o [gd r 1,gd r 2]=true
 nw:(gd r 0).int ∉ an w
 ne:(gd r 0).int ∉ an e
def gi(c:D)(rows:List b8):Int:=(rows.map fun r=>bk c (gd r 1)).sum
theorem IJ(c y:D):∀k,k<=y.rows.length->eI c y k=gi c (y.rows.take k)
 | 0,_=>rfl
 | k+1,hk=>by rw[eI,IJ c y k (by omega),Aa (show k<y.rows.length by omega)];unfold gi;rw[y8,List.sum_append];simp
theorem Bt(c y:D):eI c y y.rows.length=gi c y.rows:=by rw[IJ c y _ (i8 _),F1]
structure SOk(p:b8):Prop where
 me:inB (gd p 0).int 0 3=true
 own:bB (gd p 1)=true
 frz:bB (gd p 2)=true
 st:aN (gd p 3)=true
 lk:aY (gd p 4)=true
 rk:inB (gd p 8).int 0 1000000=true
 w:(an (gd p 6)).Pairwise (· < ·)
 w1:∀r∈(gd p 6).rows,inB (gd r 0).int 1 60=true
 e:(an (gd p 7)).Pairwise (· < ·)
 e1:∀r∈(gd p 7).rows,inB (gd r 0).int 1 60=true
 fr:∀r∈(gd p 2).rows,aT (gd p 1) (sub r 0 2)=true
 ce:∀r∈(gd p 3).rows,aT (gd p 1) (fu r)=true
 lo:∀r∈(gd p 4).rows,LOk (gd p 1) (gd p 6) (gd p 7) r
 we:∀m∈an (gd p 6),m ∉ an (gd p 7)
 h:(an (gd p 5)).Pairwise (· < ·)
 h1:∀r∈(gd p 5).rows,HOk (gd p 4) (gd p 6) (gd p 7) r
 sum:((gd p 3).rows.length:Int)+gi (gd p 3) (gd p 5).rows<=60
theorem UR(p:b8)(k:Nat):hJ p k=true↔aL (gd ((gd p 5).rows.getD k []) 1)=true/\(∀v∈(gd ((gd p 5).rows.getD k []) 1).rows,holds (gd p 4) (gd ((gd p 5).rows.getD k []) 0) (fu v) (.i 2)=true)/\(gd ((gd p 5).rows.getD k []) 0).int ∉ an (gd p 6)/\(gd ((gd p 5).rows.getD k []) 0).int ∉ an (gd p 7):=by unfold hJ;rw[a9,a9,a9,o8,o8,sY,sY,<- tV (z:=gd ((gd p 5).rows.getD k []) 1) (C:=fun v=>holds (gd p 4) (gd ((gd p 5).rows.getD k []) 0) (fu v) (.i 2))]
theorem aer(p:b8):gx p=true↔(an (gd p 5)).Pairwise (· < ·)/\∀r∈(gd p 5).rows,HOk (gd p 4) (gd p 6) (gd p 7) r:=by
 have key:∀k,k<(gd p 5).rows.length->(HOk (gd p 4) (gd p 6) (gd p 7) ((gd p 5).rows.getD k [])↔(inB (gd ((gd p 5).rows.getD k []) 0).int 1 60=true/\hJ p k=true)):=fun k hk=>by rw[UR];exact⟨fun h=>⟨h.tx,h.ws,h.lk,h.nw,h.ne⟩,fun h=>⟨h.1,h.2.1,h.2.2.1,h.2.2.2.1,h.2.2.2.2⟩⟩
 unfold gx;rw[zT];simp only[i9,m7];constructor
 ·intro h;refine⟨fun k hk=>?_,fun r J=>?_⟩
  ·have:=h (k+1) hk;simp only[fK,a9,leI,o8,B9] at this;omega
  ·obtain⟨k,hk,rfl⟩:=t9 J;rw[<- aZ hk,key k hk];have:=h k hk;cases k with
   | zero=>simp only[fK,a9] at this;exact this
   | succ k=>simp only[fK,a9] at this;exact⟨this.1,this.2.2⟩
 ·rintro⟨h1,y⟩ k hk;have a:=y _ (v6 hk);rw[<- aZ hk,key k hk] at a;cases k with
  | zero=>simp only[fK,a9];exact a
  | succ k =>simp only[fK,a9,leI,o8,B9];have:=h1 k hk;exact⟨a.1,by omega,a.2⟩
theorem sR{z:D}(h:(an z).Pairwise (· < ·))(h1:∀r∈z.rows,inB (gd r 0).int 1 60=true):z.rows.length<=60:=adb ((Ud z).2 ⟨h,h1⟩)
theorem gf(p:b8):aW p=true↔SOk p:=by
 have c0:cW p 2 0 pG=true↔∀r∈(gd p 2).rows,aT (gd p 1) (sub r 0 2)=true:=tV (z:=gd p 2) (C:=fun r=>aT (gd p 1) (sub r 0 2));have V:cW p 3 2 lm=true↔∀r∈(gd p 3).rows,aT (gd p 1) (fu r)=true:=tV (z:=gd p 3) (C:=fun r=>aT (gd p 1) (fu r));have c4:cW p 4 4 iT=true↔∀r∈(gd p 4).rows,LOk (gd p 1) (gd p 6) (gd p 7) r:=by
  refine (tV (z:=gd p 4) (C:=fun r=>aT (gd p 1) [gd r 1,gd r 2]&&(!aC (gd p 6) (gd r 0).int && !aC (gd p 7) (gd r 0).int))).trans ?_;refine forall_congr' fun r=>imp_congr_right fun _=>?_
  rw[a9,a9,o8,o8,sY,sY];exact⟨fun h=>⟨h.1,h.2.1,h.2.2⟩,fun h=>⟨h.rg,h.nw,h.ne⟩⟩
 have c6:cW p 6 6 im=true↔∀m∈an (gd p 6),m ∉ an (gd p 7):=by
  refine (tV (z:=gd p 6) (C:=fun r => !aC (gd p 7) (gd r 0).int)).trans ?_;constructor
  ·intro h m hm;obtain⟨r,y,rfl⟩:=(dS _ _).1 hm;have:=h r y
   rwa [o8,sY] at this
  ·intro h r y;rw[o8,sY];exact h _ ((dS _ _).2 ⟨r,y,rfl⟩)
 unfold aW ff;simp only[a9];rw[c0,V,c4,c6,aer,Ud,Ud,Bt];simp only[leI,g5];constructor
 ·rintro⟨a0,a1,a2,a3,U,W,_,_,_,O,M,b0,Z,b4,Y,J,bs⟩;exact⟨a0,a1,a2,a3,U,W,O.1,O.2,M.1,M.2,b0,Z,b4,Y,J.1,J.2,bs⟩
 ·intro s;have l5:=sR s.h fun r y=>(s.h1 r y).tx
  have l6:=sR s.w s.w1;have l7:=sR s.e s.e1;exact⟨s.me,s.own,s.frz,s.st,s.lk,s.rk,by omega,by omega,by omega,⟨s.w,s.w1⟩,⟨s.e,s.e1⟩,s.fr,s.ce,s.lo,s.we,⟨s.h,s.h1⟩,s.sum⟩
theorem acg(z a:D):∀k,ic (.l z.rows) a k=ic z a k
 | 0=>rfl
 | k+1=>by rw[ic,ic,acg z a k];rfl
theorem Qt(z:D)(q:b8):aT (.l z.rows) q=aT z q:=by unfold aT ge;rw[acg];rfl
theorem aki{p:b8}(h:SOk p):SOk (ddS p):=by
 have e5:gd (ddS p) 5=.l ((gd p 5).rows.map fun r => [gd r 0,.l (gd r 1).rows]):=eG p;have J:an (gd (ddS p) 5)=an (gd p 5):=by rw[e5];unfold an;rw[bd,D6];rfl
 refine⟨h.me,h.own,h.frz,h.st,h.lk,h.rk,h.w,h.w1,h.e,h.e1,fun r y=>(Qt _ _).trans (h.fr r y),fun r y=>(Qt _ _).trans (h.ce r y),fun r y=>⟨(Qt _ _).trans (h.lo r y).rg,(h.lo r y).nw,(h.lo r y).ne⟩,h.we,by rw[J];exact h.h,fun r y=>?_,?_⟩
 ·rw[e5] at y;obtain⟨x,M,rfl⟩:=A8.1 y;have:=h.h1 x M;exact⟨this.tx,this.ws,this.lk,this.nw,this.ne⟩
 ·rw[e5];have:gi (gd (ddS p) 3) (D.l ((gd p 5).rows.map fun r => [gd r 0,.l (gd r 1).rows])).rows=gi (gd p 3) (gd p 5).rows:=by unfold gi;rw[bd,D6];rfl
  rw[this];exact h.sum
abbrev IK:=find [BK]
abbrev IF:=[0,1,3,4]
theorem Qo(N:Nat)(p q:b8):bf f8 IK N IF Tryz.f123 (.one (.c (.d (.sl 108)))) [⟨sd (.sl 108),p⟩,⟨ag aI,q⟩]=some (bo,
 nd (leI ((gd p 0).rows.length:Int) 1000000000) (some (1,[pk (gd p 0) (sub q 0 2) false]))):=by kernel_rfl
def xa:Ent:=(123,e2 (sd (.sl 108)) (ag aI) fun p q=>(⟨.one (.c (.d (.sl 108))),[pk (gd p 0) q false]⟩,leI ((gd p 0).rows.length:Int) 1000000000))
theorem AU:ay f8 xa:=bm fun p q h=>au (N:=0) (ks:=IF) (al (fC ⟨Fu,fN⟩)) Tryz.func123 fun hw=>by rw[Qo];have h:leI ((gd p 0).rows.length:Int) 1000000000=true:=h;rw[h];rfl
abbrev vu:=find [kH,HL,xc]
abbrev vO:=[0,1,4,5,6,7,23,31,41,4000006]
def jX(N:Nat)(p q:b8):b8->Out:=bb f8 vu N vO Tryz.f125 (.tup [.c (.d (.sl 108)),.c (.d (.bool))]) [⟨sd (.sl 108),p⟩,⟨sd (.sl 108),q⟩] 0
theorem AZ(N:Nat)(p q:b8)(J y U O x4 M x6:D):(jX N p q) [J,y,U,O,x4,M,x6] =
 bif ltI x6.int (y.rows.length:Int) then nd (ah x6.int y.rows.length) (nd (aN J) (bif leI 0 (ux J (gd (y.rows.getD x6.int.toNat []) 0).int).int then some (1,[.l [],.b false])
 else nd (ah x6.int y.rows.length) (nd (ah x6.int y.rows.length) (nd (cI M) (nx [J,y,U,O,x4,prD (pH (prs M) (gd (y.rows.getD x6.int.toNat []) 0).int (gd (y.rows.getD x6.int.toNat []) 1).int true),.i (w64 (x6.int+1))])))))
 else ex 0 [J,y,U,O,x4,M,x6]:=by kernel_rfl
theorem OD(N:Nat)(p q:b8):bf f8 vu N vO Tryz.f125 (.tup [.c (.d (.sl 108)),.c (.d (.bool))]) [⟨sd (.sl 108),p⟩,⟨sd (.sl 108),q⟩]=some (bo,
 bif !(aN (gd p 0)) then some (1,[.l [],.b false])
 else bif !(aN (gd q 0)) then some (1,[.l [],.b false])
 else bif ltI 60 (w64 (((gd p 0).rows.length:Int)+((gd q 0).rows.length:Int))) then some (1,[.l [],.b false])
 else nd (bl ([]++(gd p 0).rows)&&true) ((let y:=aX (jX N p q) N [gd p 0,gd q 0,.l [],.i 0,.b (ltI 60 (w64 (((gd p 0).rows.length:Int)+((gd q 0).rows.length:Int)))),.l ([]++(gd p 0).rows),.i 0]
  nd y.isSome (bif y.code==1 then some (1,y.pay)
  else nd (y.code==2) (some (1,[gd y.pay 5,.b true])))))):=by kernel_rfl
def rM(z u:D):Nat->D
 | 0=>.l z.rows
 | k+1=>prD (pH (prs (rM z u k)) (gd (u.rows.getD k []) 0).int (gd (u.rows.getD k []) 1).int true)
def LA(z u:D)(k:Nat):Bool:=leI 0 (ux z (gd (u.rows.getD k []) 0).int).int
def PJ(z u:D):Bool:=aN z&&(aN u&&(leI ((z.rows.length:Int)+(u.rows.length:Int)) 60&&(List.range u.rows.length).all fun k => !LA z u k))
def mD(z u:D):b8:= [.l (bif PJ z u then (rM z u u.rows.length).rows else[]),.b (PJ z u)]
theorem SS{z:D}(h:aN z=true):upL (prs z):=by have y:=ep h;refine xo.1 (SV ⟨by have:=y.len;omega,y.key,y.lt⟩)
theorem akk{u:D}(h:aN u=true){k:Nat}(hk:k<u.rows.length):0<=(gd (u.rows.getD k []) 0).int/\(gd (u.rows.getD k []) 0).int<=999:=(ep h).key k hk
theorem Wk{z u:D}(hz:aN z=true)(y:aN u=true):∀k,k<=u.rows.length->upL (prs (rM z u k))
 | 0,_=>SS (z:=z) hz
 | k+1,hk=>by rw[rM,zO];exact Lr (Wk hz y k (by omega)) (akk y (by omega)) _ _
def Gs:Ent:=(125,e2 (sd (.sl 108)) (sd (.sl 108)) fun p q=>(⟨.tup [.c (.d (.sl 108)),.c (.d (.bool))],sub (mD (gd p 0) (gd q 0)) 0 2⟩,true))
theorem OZ:ay f8 Gs:=bm fun p q h=>au (N:=(gd q 0).rows.length+1) (ks:=vO) (al (fC ⟨jC,fC ⟨Kc,fC ⟨Ao,fN⟩⟩⟩)) Tryz.func125 fun hw=>by
 rw[OD];rw[show sub (mD (gd p 0) (gd q 0)) 0 2=mD (gd p 0) (gd q 0) from rfl];unfold mD PJ;cases hz:aN (gd p 0) with
 | false=>rfl
 | true =>
 cases y:aN (gd q 0) with
 | false=>rfl
 | true =>
 have O:(gd p 0).rows.length<=60:=(ep hz).len;have U:(gd q 0).rows.length<=60:=(ep y).len;rw[n4,f9,f9,bD (x:=((gd p 0).rows.length:Int)+((gd q 0).rows.length:Int)) (by omega) (by omega)];by_cases J:((gd p 0).rows.length:Int)+((gd q 0).rows.length:Int)<=60
 ·rw[iI J,bi J,f9,ci (by rw[F0];omega),u5,aU,y7,y7,y7];have e:=dE (L:=jX ((gd q 0).rows.length+1) p q) (fun k => [gd p 0,gd q 0,.l [],.i 0,.b false,rM (gd p 0) (gd q 0) k,.i (k:Int)]) (gd q 0).rows.length (fun k => !LA (gd p 0) (gd q 0) k) [.l [],.b false] 0 (fun k hk=>?_) ?_ (N:=(gd q 0).rows.length+1) (by omega)
  ·simp only[j9,rM] at e;rw[F0,e];cases (List.range (gd q 0).rows.length).all fun k => !LA (gd p 0) (gd q 0) k
   ·rfl
   ·show some (bo,some (1,[rM (gd p 0) (gd q 0) (gd q 0).rows.length,.b true]))=some (bo,some (1,[.l (rM (gd p 0) (gd q 0) (gd q 0).rows.length).rows,.b true]));cases (gd q 0).rows.length <;> rfl
  ·show jX _ p q [_,_,_,_,_,_,.i (k:Int)]=_;rw[AZ];have M:cI (rM (gd p 0) (gd q 0) k)=true:=xo.2 (Wk hz y k (by omega));simp only[aA,di hk,bu hk,g8,aG hk (show (gd q 0).rows.length<=9223372036854775807 by omega),hz,M,aU];unfold LA;cases leI 0 (ux (gd p 0) (gd ((gd q 0).rows.getD k []) 0).int).int <;> rfl
  ·show jX _ p q [_,_,_,_,_,_,.i ((gd q 0).rows.length:Int)]=_;rw[AZ];simp only[aA,ca]
 ·rw[lp (show (60:Int)<((gd p 0).rows.length:Int)+((gd q 0).rows.length:Int) by omega),FX (show (60:Int)<((gd p 0).rows.length:Int)+((gd q 0).rows.length:Int) by omega)];rfl
theorem ij(z:D):aN z=true↔(∀a∈prs z,(0<=a.1/\a.1<=999)/\(0<=a.2/\a.2<=1000000000))/\(prs z).Pairwise (fun a b=>a.1<b.1)/\z.rows.length<=60:=by
 have y:∀k (h:k<z.rows.length),(prs z)[k]'(by rw[ew];exact h)=((gd (z.rows.getD k []) 0).int,(gd (z.rows.getD k []) 1).int):=fun k h=>pg z k h
 constructor
 ·intro h;have M:=ep h;refine⟨fun a Y=>?_,y6.2 fun i j hi O V=>?_,M.len⟩
  ·obtain⟨k,hk,rfl⟩:=t9 Y;rw[ew] at hk;rw[y k hk];refine⟨M.key k hk,?_⟩;simp only[aN,a9,i9,m7] at h;have:=h.1 k hk;cases k with
   | zero=>simp only[storeAt,a9,inB,g5] at this;exact⟨this.2.1,this.2.2⟩
   | succ k=>simp only[storeAt,a9,inB,g5] at this;exact⟨this.2.1.1,this.2.1.2⟩
  ·rw[ew] at hi O;rw[y i hi,y j O];exact M.lt i j V O
 ·rintro⟨h1,W,Z⟩;simp only[aN,a9,i9,m7,leI,g5];refine⟨fun k hk=>?_,by omega⟩;have J:=h1 _ (v6 (by rw[ew];exact hk));rw[y k hk] at J;cases k with
  | zero =>simp only[storeAt,a9,inB,g5];exact⟨⟨J.1.1,J.1.2⟩,J.2.1,J.2.2⟩
  | succ k =>have U:=y6.1 W k (k+1) (by rw[ew];omega) (by rw[ew];exact hk) (by omega);rw[y k (by omega),y (k+1) hk] at U;simp only[storeAt,a9,inB,g5,leI,o8,B9];have U:(gd (z.rows.getD k []) 0).int<(gd (z.rows.getD (k+1) []) 0).int:=U;exact⟨⟨J.1.1,J.1.2⟩,⟨J.2.1,J.2.2⟩,by omega⟩
theorem abK{z:D}(h:aN z=true)(t:Int):bsB z t=true↔∃a∈prs z,a.1=t:=by
 have M:=ep h;constructor
 ·intro J;unfold bsB at J;simp only[a9,ltI,g5,u7] at J;have y:bp z t<z.rows.length:=by omega
  exact⟨_,v6 (by rw[ew];exact y),by rw[pg z _ y];exact J.2⟩
 ·rintro⟨a,V,e⟩;obtain⟨k,hk,rfl⟩:=t9 V;rw[ew] at hk;rw[pg z k hk] at e;have e:bT z k=t:=e;have hl:bp z t=k:=sp (by omega) (fun j U=>by have:=M.lt j k U hk;omega) (fun j h1 O=>by
   rcases C4 k j with h3 | h3
   ·have:=M.lt k j h3 O;omega
   ·obtain rfl:j=k:=by omega
    omega)
  unfold bsB;rw[hl,gy hk,e,s9];rfl
theorem agN{xs:List (Int × Int)}{t v:Int}{m:Int × Int}:m∈pH xs t v true↔m=(t,v)\/(m∈xs/\m.1≠t):=by
 unfold pH ik jS;rw[g6];simp only[n3,B7,y5,g5];constructor
 ·rintro ((⟨h1,y⟩ | h) | ⟨h1,y⟩)
  ·exact .inr ⟨h1,by omega⟩
  ·exact .inl h
  ·exact .inr ⟨h1,by omega⟩
 ·rintro (h | ⟨h1,y⟩)
  ·exact .inl (.inr h)
  ·rcases I6 m.1 t with h3 | h3 | h3
   ·exact .inl (.inl ⟨h1,h3⟩)
   ·exact absurd h3 y
   ·exact .inr ⟨h1,h3⟩
def Kv(xs:List (Int × Int))(t:Int):Bool:=xs.any fun a=>a.1==t
theorem ud{xs:List (Int × Int)}{t:Int}:Kv xs t=true↔∃a∈xs,a.1=t:=by simp[Kv]
theorem aha{xs:List (Int × Int)}{t v:Int}{b:Bool}{m:Int × Int}:m∈pH xs t v b↔(b=true/\m=(t,v))\/(m∈xs/\m.1≠t):=by
 cases b with
 | true=>simp[agN]
 | false =>
  unfold pH ik jS;simp only[f9,D9,n3,B7,g5,y4,false_and,false_or];constructor
  ·rintro (⟨h1,y⟩ | ⟨h1,y⟩)
   ·exact⟨h1,by omega⟩
   ·exact⟨h1,by omega⟩
  ·rintro⟨h1,y⟩;rcases I6 m.1 t with h3 | h3 | h3
   ·exact .inl ⟨h1,h3⟩
   ·exact absurd h3 y
   ·exact .inr ⟨h1,h3⟩
theorem abO(t:Int):∀xs:List (Int × Int),(ik t xs).length+(jS t xs).length+(bif Kv xs t then 1 else 0)<=xs.length
 | []=>i8 _
 | a::xs=>by
  have y:=abO t xs;unfold ik jS Kv at y ⊢;rw[C6,C6,List.any_cons];rcases I6 a.1 t with h | h | h
  ·have e:(a.1==t)=false:=by simp;omega
   have e2:¬t<a.1:=by omega
   rw[e];simp only[h,e2,decide_true,decide_false,if_true,y4,if_false,D8,G7];omega
  ·have e:(a.1==t)=true:=by simp[h]
   have e1:¬a.1<t:=by omega
   have e2:¬t<a.1:=by omega
   rw[e];simp only[e1,e2,decide_false,y4,if_false,D8,M1,g6];revert y;cases xs.any (fun a=>a.1==t) <;> simp only[g6,f9] <;> omega
  ·have e:(a.1==t)=false:=by simp;omega
   have e2:¬a.1<t:=by omega
   rw[e];simp only[h,e2,decide_true,decide_false,if_true,y4,if_false,D8,G7];omega
theorem ST(xs:List (Int × Int))(t v:Int)(b:Bool):(pH xs t v b).length<=xs.length+(bif b && !Kv xs t then 1 else 0):=by have h:=abO t xs;unfold pH;rw[i6,i6];revert h;cases b <;> cases Kv xs t <;> simp only[g6,f9,y7,A9,n4,A4,n9,z8] <;> omega
theorem kR(z:D):aL z=true↔z.rows.length<=60/\(∀r∈z.rows,inB (gd r 0).int 0 999=true/\inB (gd r 1).int (-1) 1000000000=true)/\(an z).Pairwise (· < ·):=by
 unfold aL;rw[zT,a9,g5];simp only[i9,m7,lW,a9,B6,u7,o8,B9];constructor
 ·rintro⟨M,h⟩;refine⟨by omega,fun r J=>?_,fun k hk=>?_⟩
  ·obtain⟨k,hk,rfl⟩:=t9 J;have:=h k hk;rw[aZ hk] at this;exact⟨this.1,this.2.1⟩
  ·have:=(h (k+1) hk).2.2;rw[L4] at this;omega
 ·rintro⟨M,h1,y⟩;refine⟨by omega,fun k hk=>?_⟩;have a:=h1 _ (v6 hk);rw[<- aZ hk] at a;refine⟨a.1,a.2,?_⟩;cases k with
  | zero=>exact .inl rfl
  | succ k =>have:=y k hk;rw[L4];exact .inr (by omega)
theorem Xs{z:D}(h:aN z=true){t v:Int}(hm:(t,v)∈prs z):(ux z t).int=v:=by
 have y:=ep h;have O:=(abK h t).2 ⟨_,hm,rfl⟩;obtain⟨k,hk,e⟩:=t9 hm;rw[ew] at hk;rw[pg z k hk] at e;have e1:bT z k=t:=congrArg Prod.fst e;have e2:(gd (z.rows.getD k []) 1).int=v:=congrArg Prod.snd e;have hl:bp z t=k:=sp (by omega) (fun j J=>by have:=y.lt j k J hk;omega) (fun j h1 M=>by
  rcases C4 k j with h3 | h3
  ·have:=y.lt k j h3 M;omega
  ·obtain rfl:j=k:=by omega
   omega)
 unfold ux;rw[O,g6,hl,e2]
theorem abo{z:D}(h:aN z=true){t:Int}(M:∀a∈prs z,a.1≠t):(ux z t).int = -1:=by
 have J:bsB z t=false:=by rw[<- G8,abK h];rintro⟨a,y,e⟩;exact M a y e
 unfold ux;rw[J];rfl
def alK(z:D)(r:b8):Bool:=leI 0 (gd r 1).int && !Kv (prs z) (gd r 0).int
theorem Tm{z:D}(h:aN z=true)(r:b8):(leI 0 (gd r 1).int&&ltI (ux z (gd r 0).int).int 0)=alK z r:=by
 unfold alK
 congr 1
 cases hk:Kv (prs z) (gd r 0).int with
 | true =>obtain⟨a,y,e⟩:=ud.1 hk;have hv:=Xs (t:=(gd r 0).int) (v:=a.2) h (by rw[<- e];exact y);have:=((ij z).1 h).1 a y;rw[hv];exact iI (by omega)
 | false =>rw[abo h fun a y e=>by have:=ud.2 ⟨a,y,e⟩;rw[hk] at this;cases this];rfl
theorem RD{C E:Nat->Bool}:∀k,(∀j,j<k->C j=E j)->cnt C 0 k=cnt E 0 k
 | 0,_=>rfl
 | k+1,h=>by rw[jm,jm,RD k fun j y=>h j (by omega),m0,h k (by omega)]
section
variable {z ws:D} (hz:aN z=true) (hw:aL ws=true)
include hz hw
theorem zY:∀j,j<=ws.rows.length->(∀m,m∈prs (wrD z ws j)↔(∃i,i<j/\0<=(gd (ws.rows.getD i []) 1).int/\m=((gd (ws.rows.getD i []) 0).int,(gd (ws.rows.getD i []) 1).int))\/(m∈prs z/\∀i,i<j->m.1≠(gd (ws.rows.getD i []) 0).int)) /\
  upL (prs (wrD z ws j))/\(wrD z ws j).rows.length<=z.rows.length+cnt (my z ws) 0 j
 | 0,_=>by
  refine⟨fun m=>⟨fun h=>.inr ⟨h,fun i hi=>by omega⟩,fun h=>?_⟩,?_,i8 _⟩
  ·rcases h with⟨i,hi,_⟩ | h
   ·omega
   ·exact h.1
  ·have:=(ij z).1 hz;exact⟨this.2.1,fun a J=>(this.1 a J).1⟩
 | j+1,hj=>by
  obtain⟨V,Y,i3⟩:=zY j (by omega);obtain⟨w0,w1,w2⟩:=(kR ws).1 hw;have M:∀i,i<j->(gd (ws.rows.getD i []) 0).int<(gd (ws.rows.getD j []) 0).int:=fun i hi=>za (f:=fun k=>(gd (ws.rows.getD k []) 0).int) (zT.1 w2) j i hi (by omega)
  have U:=w1 _ (v6 (show j<ws.rows.length by omega));rw[<- aZ (show j<ws.rows.length by omega)] at U;have W:0<=(gd (ws.rows.getD j []) 0).int/\(gd (ws.rows.getD j []) 0).int<=999:=by have:=U.1;simp only[inB,a9,g5] at this;exact this
  have e:prs (wrD z ws (j+1))=pH (prs (wrD z ws j)) (gd (ws.rows.getD j []) 0).int (gd (ws.rows.getD j []) 1).int (leI 0 (gd (ws.rows.getD j []) 1).int):=zO _;have hk:Kv (prs (wrD z ws j)) (gd (ws.rows.getD j []) 0).int=Kv (prs z) (gd (ws.rows.getD j []) 0).int:=by
   rw[y0,ud,ud];constructor
   ·rintro⟨a,J,h⟩;rcases (V a).1 J with⟨i,hi,_,rfl⟩ | ⟨J,_⟩
    ·have:=M i hi;have h:(gd (ws.rows.getD i []) 0).int=_:=h;omega
    ·exact⟨a,J,h⟩
   ·rintro⟨a,J,h⟩;refine⟨a,(V a).2 (.inr ⟨J,fun i hi=>?_⟩),h⟩;have:=M i hi;omega
  have hl:=ST (prs (wrD z ws j)) (gd (ws.rows.getD j []) 0).int (gd (ws.rows.getD j []) 1).int (leI 0 (gd (ws.rows.getD j []) 1).int);rw[<- e,hk,ew,ew] at hl;have hc:cnt (my z ws) 0 (j+1)=cnt (my z ws) 0 j+(bif leI 0 (gd (ws.rows.getD j []) 1).int && !Kv (prs z) (gd (ws.rows.getD j []) 0).int then 1 else 0):=by rw[jm,m0];have:=Tm hz (ws.rows.getD j []);unfold my;rw[this];rfl
  refine⟨fun m=>?_,?_,by rw[hc];omega⟩
  ·rw[e,aha,V];simp only[leI,g5];constructor
   ·rintro (⟨h1,y⟩ | ⟨⟨i,hi,h1,y⟩ | ⟨h1,y⟩,Z⟩)
    ·exact .inl ⟨j,by omega,h1,y⟩
    ·exact .inl ⟨i,by omega,h1,y⟩
    ·refine .inr ⟨h1,fun i hi=>?_⟩;by_cases O:i=j
     ·rw[O];exact Z
     ·exact y i (by omega)
   ·rintro (⟨i,hi,h1,y⟩ | ⟨h1,y⟩)
    ·by_cases O:i=j
     ·subst O;exact .inl ⟨h1,y⟩
     ·refine .inr ⟨.inl ⟨i,by omega,h1,y⟩,?_⟩;have:=M i (by omega);rw[y];show (gd (ws.rows.getD i []) 0).int≠_;omega
    ·exact .inr ⟨.inr ⟨h1,fun i hi=>y i (by omega)⟩,y j (by omega)⟩
  ·rw[e];exact Lr Y W _ _
theorem qf(m:Int × Int):m∈prs (wrD z ws ws.rows.length)↔(∃r∈ws.rows,0<=(gd r 1).int/\m=((gd r 0).int,(gd r 1).int))\/(m∈prs z/\∀r∈ws.rows,m.1≠(gd r 0).int):=by
 rw[(zY hz hw ws.rows.length (i8 _)).1];constructor
 ·rintro (⟨i,hi,h1,y⟩ | ⟨h1,y⟩)
  ·rw[aZ hi] at h1 y;exact .inl ⟨_,v6 hi,h1,y⟩
  ·refine .inr ⟨h1,fun r J=>?_⟩;obtain⟨k,hk,rfl⟩:=t9 J;have:=y k hk
   rwa [aZ hk] at this
 ·rintro (⟨r,J,h1,y⟩ | ⟨h1,y⟩)
  ·obtain⟨k,hk,rfl⟩:=t9 J;exact .inl ⟨k,hk,by rw[aZ hk];exact h1,by rw[aZ hk];exact y⟩
  ·exact .inr ⟨h1,fun i hi=>by rw[aZ hi];exact y _ (v6 hi)⟩
theorem agC:bk z ws=(cnt (my z ws) 0 ws.rows.length:Int):=by unfold bk;rw[hz,hw];rfl
theorem SC:((wrD z ws ws.rows.length).rows.length:Int)<=z.rows.length+bk z ws:=by have:=(zY hz hw ws.rows.length (i8 _)).2.2;rw[agC hz hw];omega
theorem FD(hl:(z.rows.length:Int)+bk z ws<=60):aN (wrD z ws ws.rows.length)=true:=by
 have h1:=SC hz hw;obtain⟨w0,w1,U⟩:=(kR ws).1 hw;have J:=(zY hz hw ws.rows.length (i8 _)).2.1;refine (ij _).2 ⟨fun a M=>?_,J.1,by omega⟩;rcases (qf hz hw a).1 M with⟨r,O,y,rfl⟩ | ⟨y,_⟩
 ·have:=w1 r O;simp only[inB,a9,g5] at this;show (0<=(gd r 0).int/\(gd r 0).int<=999)/\(0<=(gd r 1).int/\(gd r 1).int<=1000000000);omega
 ·exact ((ij z).1 hz).1 a y
theorem adj(hl:(z.rows.length:Int)+bk z ws<=60){r:b8}(y:r∈ws.rows):(ux (wrD z ws ws.rows.length) (gd r 0).int).int=(gd r 1).int:=by
 have M:=FD hz hw hl;obtain⟨w0,w1,Z⟩:=(kR ws).1 hw;by_cases hv:0<=(gd r 1).int
 ·exact Xs M ((qf hz hw _).2 (.inl ⟨r,y,hv,rfl⟩))
 ·rw[abo M fun a Y e=>?_]
  ·have:=(w1 r y).2;simp only[inB,a9,g5] at this;omega
  ·rcases (qf hz hw a).1 Y with⟨x,W,J,rfl⟩ | ⟨_,J⟩
   ·have e:(gd x 0).int=(gd r 0).int:=e;obtain⟨i,hi,rfl⟩:=t9 W;obtain⟨j,V,rfl⟩:=t9 y;rw[<- aZ hi,<- aZ V] at e;have O:=za (f:=fun k=>(gd (ws.rows.getD k []) 0).int) (zT.1 Z);have U:i=j:=by
     rcases M0 i j with h | h | h
     ·have:=O j i h V;omega
     ·exact h
     ·have:=O i j h hi;omega
    subst U;exact hv J
   ·exact J r y e
theorem aex(hl:(z.rows.length:Int)+bk z ws<=60){w:D}(J:∀a∈w.rows,∀r∈ws.rows,(gd a 0).int≠(gd r 0).int):bk (wrD z ws ws.rows.length) w=bk z w:=by
 have M:=FD hz hw hl;unfold bk;rw[M,hz];cases aL w with
 | false=>rfl
 | true =>
  rw[g6,g6,g6]
  congr 1
  refine RD _ fun j U=>?_
  unfold my;rw[Tm M,Tm hz];unfold alK
  congr 2
  rw[y0,ud,ud];have O:=J _ (by rw[aZ U];exact v6 U:w.rows.getD j []∈w.rows);constructor
  ·rintro⟨a,y,e⟩;rcases (qf hz hw a).1 y with⟨x,W,_,rfl⟩ | ⟨h3,_⟩
   ·exact absurd e.symm (O x W)
   ·exact⟨a,h3,e⟩
  ·rintro⟨a,y,e⟩;exact⟨a,(qf hz hw a).2 (.inr ⟨y,fun r V=>by rw[e];exact O r V⟩),e⟩
end
theorem jL{l n:D}{a:b8}{m:D}:holds l n a m=true↔∃r∈l.rows,oI r n a m=true:=ail (z:=l) (C:=fun r=>oI r n a m)
theorem OH{r:b8}{n:D}{a:b8}{m:D}(h:oI r n a m=true):(gd r 0).int=n.int:=by unfold oI at h;rw[a9,u7] at h;exact h.1
theorem aeM{l h n:D}{a:b8}(M:bN [l] [h] [n] (sub a 0 2) [.i 2]=true)(J:(gd (dB l h n a (.i 2)) 2).int≠2)(y:(gd (dB l h n a (.i 2)) 2).int≠3) :
  (bV l n (sub a 0 2) (.i 2)=true/\dB l h n a (.i 2) = [.l l.rows,.l [],.i 0]) \/
  ((∀m,m ∉ an (clW l h (bW n a (.i 2))))/\(((cO l (bW n a (.i 2))).rows.length:Int)==40)=false/\dB l h n a (.i 2) = [.l ((cO l (bW n a (.i 2))).rows ++ [bW n a (.i 2)]),clA l (bW n a (.i 2)),.i 0]):=by
 unfold dB at J y ⊢;rw[M] at J y ⊢;simp only[n4,f9] at J y ⊢;cases O:bV l n (sub a 0 2) (.i 2) with
 | true=>exact .inl ⟨rfl,rfl⟩
 | false =>
  rw[O] at J y;simp only[f9] at J y ⊢;cases hc:ltI 0 ((clW l h (bW n a (.i 2))).rows.length:Int) with
  | true=>rw[hc] at J;exact absurd rfl J
  | false =>
   rw[hc] at y;simp only[f9] at y ⊢;cases U:((cO l (bW n a (.i 2))).rows.length:Int)==40 with
   | true=>rw[U] at y;exact absurd rfl y
   | false =>refine .inr ⟨fun m hm=>?_,rfl,rfl⟩;have:=(Yu _).2 ⟨m,hm⟩;rw[show ltI 0 ((clW l h (bW n a (.i 2))).rows.length:Int)=true from lp (by omega)] at hc;cases hc
structure alz(p:b8)(n u:D)(k:Nat)(L W:D):Prop where
 lk:aY L=true
 w:(an W).Pairwise (· < ·)
 w0:∀m∈an (gd p 6),m∈an W
 w1:∀m∈an W,m∈an (gd p 6)\/((∃r∈(gd p 4).rows,(gd r 0).int=m)/\m≠n.int/\aC (aF (gd p 5)) m=false)
 l:∀r∈L.rows,(r∈(gd p 4).rows\/∃j,j<k/\r=bW n (cS u j) (.i 2))/\(gd r 0).int ∉ an W
 keep:∀r∈(gd p 4).rows,((gd r 0).int=n.int\/aC (aF (gd p 5)) (gd r 0).int=true)->r∈L.rows
 new:∀j,j<k->holds L n (cS u j) (.i 2)=true
section
variable {p:b8} {n u:D} (hsh:aW (sub p 0 9)=true) (hin:inB n.int 1 60=true) (hwo:aL u=true) (hn6:n.int ∉ an (gd p 6))
include hsh hin hwo hn6
theorem Yb:∀k,k<=u.rows.length->(bR p n u (.i 0) k).2.2.int=0->alz p n u k (bR p n u (.i 0) k).1 (bR p n u (.i 0) k).2.1
 | 0,_,_=>by
  have s:=(gf _).1 hsh;have b0:∀r∈(gd p 4).rows,(gd r 0).int ∉ an (gd p 6):=fun r y=>(s.lo r y).nw
  exact⟨s.lk,s.w,fun m hm=>hm,fun m hm=>.inl hm,fun r y=>⟨.inl y,b0 r y⟩,fun r y _=>y,fun j hj=>absurd hj (G2 j)⟩
 | k+1,hk,h0=>by
  have a8:(bR p n u (.i 0) k).2.2.int=0:=by apply Classical.byContradiction;intro V;have:=qz p n u (.i 0) (k:=k) (E9.2 V) 1;rw[this] at h0;exact V h0
  have I:=Yb k (by omega) a8;have hR:=Nx hsh hin hwo I.lk (show k<u.rows.length by omega);have ha:ax (sub (cS u k) 0 2)=true:=Lo hwo (show k<u.rows.length by omega);have a6:(bR p n u (.i 0) (k+1))=(bif (gd (dB (bR p n u (.i 0) k).1 (aF (gd p 5)) n (cS u k) (.i 2)) 2).int==2 then ((bR p n u (.i 0) k).1,(bR p n u (.i 0) k).2.1,.i 5)
   else bif (gd (dB (bR p n u (.i 0) k).1 (aF (gd p 5)) n (cS u k) (.i 2)) 2).int==3 then ((bR p n u (.i 0) k).1,(bR p n u (.i 0) k).2.1,.i 6)
   else (gd (dB (bR p n u (.i 0) k).1 (aF (gd p 5)) n (cS u k) (.i 2)) 0,mA (bR p n u (.i 0) k).2.1 (gd (dB (bR p n u (.i 0) k).1 (aF (gd p 5)) n (cS u k) (.i 2)) 1) (gd (dB (bR p n u (.i 0) k).1 (aF (gd p 5)) n (cS u k) (.i 2)) 1).rows.length,.i 0)):=by
   rw[bR,a8,Tg];rfl
  rw[a6] at h0 ⊢;generalize (bR p n u (.i 0) k).1=L at *;generalize (bR p n u (.i 0) k).2.1=W at *;have g2:(gd (dB L (aF (gd p 5)) n (cS u k) (.i 2)) 2).int≠2:=fun e=>by rw[e] at h0;exact absurd h0 (by show ¬(5:Int)=0;decide)
  have g3:(gd (dB L (aF (gd p 5)) n (cS u k) (.i 2)) 2).int≠3:=fun e=>by rw[e] at h0;exact absurd h0 (by show ¬(6:Int)=0;decide)
  rw[E9.2 g2,E9.2 g3,f9,f9];have Y:=ahn hR;rcases aeM hR g2 g3 with⟨hh,e⟩ | ⟨hw,h40,e⟩
  ·rw[e] at Y ⊢;refine⟨I.lk,I.w,I.w0,I.w1,fun r y=>?_,I.keep,fun j hj=>?_⟩
   ·obtain⟨O,a2⟩:=I.l r y;refine⟨?_,a2⟩;rcases O with O | ⟨j,hj,O⟩
    ·exact .inl O
    ·exact .inr ⟨j,by omega,O⟩
   ·by_cases a4:j=k
    ·subst a4;have:=zJ (tx:=n) I.lk ha;rw[hh] at this;exact this
    ·exact I.new j (by omega)
  ·rw[e] at Y ⊢;show alz p n u (k+1) (.l ((cO L (bW n (cS u k) (.i 2))).rows ++ [bW n (cS u k) (.i 2)])) (mA W (clA L (bW n (cS u k) (.i 2))) (clA L (bW n (cS u k) (.i 2))).rows.length);have Y:aY (.l ((cO L (bW n (cS u k) (.i 2))).rows ++ [bW n (cS u k) (.i 2)]))=true:=Y;have a5:(gd (bW n (cS u k) (.i 2)) 0).int=n.int:=rfl;have a7:oI (bW n (cS u k) (.i 2)) n (cS u k) (.i 2)=true:=by unfold oI gK;have h1:ax (sub (cS u k) 0 2)=true:=ha;have J:ax (sub [gd (bW n (cS u k) (.i 2)) 1,gd (bW n (cS u k) (.i 2)) 2] 0 2)=true:=ha;have h3:leI (gd [gd (bW n (cS u k) (.i 2)) 1,gd (bW n (cS u k) (.i 2)) 2] 0).int (gd (cS u k) 0).int=true:=bi (J4 _);have h4:leI (gd (cS u k) 1).int (gd [gd (bW n (cS u k) (.i 2)) 1,gd (bW n (cS u k) (.i 2)) 2] 1).int=true:=bi (J4 _);rw[h1,J,h3,h4,a5,s9];rfl
   have M:∀m,m∈an (clA L (bW n (cS u k) (.i 2)))->∃r∈L.rows,cX (bW n (cS u k) (.i 2)) r=true/\(gd r 0).int=m:=fun m hm=>(Dp _ _ m).1 hm
   have U:∀r,r∈(cO L (bW n (cS u k) (.i 2))).rows↔r∈L.rows/\(gd r 0).int ∉ an (clA L (bW n (cS u k) (.i 2))):=fun r=>by rw[qe,B7,o8,sY]
   have a3:n.int ∉ an (clA L (bW n (cS u k) (.i 2))):=fun hm=>by obtain⟨r,_,h1,J⟩:=M _ hm;exact YN h1 (J.trans a5.symm)
   obtain⟨q1,q2⟩:=zF (t:=clA L (bW n (cS u k) (.i 2))) I.w _ (i8 _);rw[C9 (show (an (clA L (bW n (cS u k) (.i 2)))).length<=(clA L (bW n (cS u k) (.i 2))).rows.length by rw[cr];exact i8 _)] at q2;have a0:∀m,m∈an (clA L (bW n (cS u k) (.i 2)))->aC (aF (gd p 5)) m=false:=fun m hm=>by
    obtain⟨r,y,h1,J⟩:=M _ hm;cases hh:aC (aF (gd p 5)) m with
    | false=>rfl
    | true=>exact absurd ((Tx _ _ _ m).2 ⟨r,y,by rw[h1,J,hh,J8];rfl,J⟩) (hw m)
   refine⟨Y,q1,fun m hm=>(q2 m).2 (.inl (I.w0 m hm)),fun m hm=>?_,fun r y=>?_,fun r y Z=>?_,fun j hj=>?_⟩
   ·rcases (q2 m).1 hm with hm | hm
    ·exact I.w1 m hm
    ·obtain⟨r,y,h1,J⟩:=M _ hm;have V:m≠n.int:=fun e=>a3 (e▸hm)
     rcases (I.l r y).1 with h4 | ⟨j,hj,h4⟩
     ·exact .inr ⟨⟨r,h4,J⟩,V,a0 m hm⟩
     ·rw[h4] at J;exact absurd J.symm V
   ·rcases n3.1 y with y | y
    ·obtain⟨h1,J⟩:=(U r).1 y;obtain⟨O,a2⟩:=I.l r h1;refine⟨?_,fun hm=>?_⟩
     ·rcases O with O | ⟨j,hj,O⟩
      ·exact .inl O
      ·exact .inr ⟨j,by omega,O⟩
     ·rcases (q2 _).1 hm with hm | hm
      ·exact a2 hm
      ·exact J hm
    ·rw[y5.1 y];refine⟨.inr ⟨k,by omega,rfl⟩,fun hm=>?_⟩;rw[a5] at hm;rcases (q2 _).1 hm with hm | hm
     ·rcases I.w1 _ hm with h1 | ⟨_,h1,_⟩
      ·exact hn6 h1
      ·exact h1 rfl
     ·exact a3 hm
   ·refine List.mem_append_left _ ((U r).2 ⟨I.keep r y Z,fun hm=>?_⟩);rcases Z with Z | Z
    ·rw[Z] at hm;exact a3 hm
    ·rw[a0 _ hm] at Z;cases Z
   ·rw[jL];by_cases a4:j=k
    ·subst a4;exact⟨_,List.mem_append_right _ (y5.2 rfl),a7⟩
    ·obtain⟨r,y,h1⟩:=jL.1 (I.new j (by omega));refine⟨r,List.mem_append_left _ ((U r).2 ⟨y,?_⟩),h1⟩;rw[OH h1];exact a3
end
theorem yN(c:D)(a b:List b8):gi c (a++b)=gi c a+gi c b:=by unfold gi;rw[y8,List.sum_append]
theorem alZ{h n v:D}(U:(an h).Pairwise (· < ·))(Z:n.int ∉ an h):(an (kh h (bp (aF h) n.int:Int) (.l [[n,v]]))).Pairwise (· < ·):=by
 have hz:(an (aF h)).Pairwise (· < ·):=by
  have:an (aF h)=an h:=by unfold an aF;rw[bd,D6];rfl
  rw[this];exact U
 obtain⟨l1,l2,Y⟩:=LS hz n.int;have O:(aF h).rows.length=h.rows.length:=r9 ..;rw[O] at l1 Y;have J:∀k,k<h.rows.length->bT (aF h) k=(gd (h.rows.getD k []) 0).int:=fun k hk=>by show (gd ((h.rows.map fun r => [gd r 0]).getD k []) 0).int=_;rw[g4,w9,g9 hk,aZ hk];rfl
 generalize bp (aF h) n.int=i at *;have e:an (kh h (i:Int) (.l [[n,v]]))=(an h).take i ++ [n.int]++(an h).drop i:=by unfold an kh;rw[bd,y8,y8,N6,N7,g8];rfl
 rw[e];have W:∀a∈(an h).take i,a<n.int:=fun a y=>by obtain⟨k,hk,rfl⟩:=t9 y;rw[w5,cr] at hk;rw[M4];obtain⟨_,e1⟩:=g7.1 (dC h k (by omega));rw[e1,<- J k (by omega)];exact l2 k (by omega)
 have V:∀a∈(an h).drop i,n.int<a:=fun a y=>by
  obtain⟨k,hk,rfl⟩:=t9 y;rw[v9,cr] at hk;rw[M5];obtain⟨_,e1⟩:=g7.1 (dC h (i+k) (by omega));rw[e1];have h1:=Y (i+k) (by omega) (by omega);rw[J _ (by omega)] at h1;have h2:(gd (h.rows.getD (i+k) []) 0).int≠n.int:=fun e2=>Z ((dS _ _).2 ⟨h.rows.getD (i+k) [],by rw[aZ (by omega)];exact v6 _,e2⟩)
  omega
 refine G1.2 ⟨G1.2 ⟨U.sublist (List.take_sublist _ _),List.pairwise_singleton _ _,fun a y b M=>?_⟩,U.sublist (List.drop_sublist _ _),fun a y b M=>?_⟩
 ·rw[y5.1 M];exact W a y
 ·rcases n3.1 y with y | y
  ·have:=W a y;have:=V b M;omega
  ·rw[y5.1 y];exact V b M
theorem VI{h:D}{i:Int}{v r:b8}:r∈(kh h i (.l [v])).rows↔r∈h.rows\/r=v:=by
 show r∈h.rows.take i.toNat ++ [v]++h.rows.drop i.toNat↔_;rw[n3,n3,y5];constructor
 ·rintro ((h1 | h1) | h1)
  ·exact .inl (K2 h1)
  ·exact .inr h1
  ·exact .inl (D1 h1)
 ·rintro (h1 | h1)
  ·rw[<- H3 i.toNat h.rows,n3] at h1;rcases h1 with h1 | h1
   ·exact .inl (.inl h1)
   ·exact .inr h1
  ·exact .inl (.inr h1)
theorem ajn(c:D)(h:D)(i:Int)(v:b8):gi c (kh h i (.l [v])).rows=gi c h.rows+bk c (gd v 1):=by
 show gi c (h.rows.take i.toNat ++ [v]++h.rows.drop i.toNat)=_;rw[yN,yN];have:gi c h.rows=gi c (h.rows.take i.toNat)+gi c (h.rows.drop i.toNat):=by rw[<- yN,H3]
 have e:gi c [v]=bk c (gd v 1):=by simp[gi]
 rw[this,e];omega
end Go.Proofs.YtpdfmcmnjikppaaGreat
end
