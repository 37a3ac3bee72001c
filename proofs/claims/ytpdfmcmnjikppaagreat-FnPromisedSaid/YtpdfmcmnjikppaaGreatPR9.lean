/-
 Texts of the proof,put together: part 9.
-/
import Derived.Test.YtpdfmcmnjikppaaGreatPR1
import Derived.Test.YtpdfmcmnjikppaaGreatPR2
import Derived.Test.YtpdfmcmnjikppaaGreatPR3
import Derived.Test.YtpdfmcmnjikppaaGreatPR4
import Derived.Test.YtpdfmcmnjikppaaGreatPR5
import Derived.Test.YtpdfmcmnjikppaaGreatPR6
import Derived.Test.YtpdfmcmnjikppaaGreatPR7
import Derived.Test.YtpdfmcmnjikppaaGreatPR8
import Derived.Deep.Slices
import Derived.Deep.Fields
import Derived.OpenShut
set_option linter.unusedSimpArgs false
set_option linter.unusedVariables false
set_option linter.unusedSectionVars false
noncomputable section
namespace Go.Proofs.YtpdfmcmnjikppaaGreat
set_option maxRecDepth 4096
set_option maxHeartbeats 1000000
abbrev oP:=find [rq,jj,gw,gN,sM,ig,ml,vW,pV,uS]
abbrev oX:=[0,1,2,3,5,6,7,8,9,10,11,12,13,14,15,16,18,25,37,48,59,75,79,85,3000013,3000021]
def gZ(N:Nat)(p q r:b8):b8->Out:=bb f8 oP N oX Tryz.f10 (.tup [.agg d9,.c (.d (.sl 108)),.c (.d si)]) [⟨ag aR,p⟩,⟨ri,q⟩,⟨ag aI,r⟩] 0
def qx(N:Nat)(p q r:b8)(x0 x1 x2 x3 x4 x5 x6 x7 x8 x9 d2 Z b4 c4 d6 a1 d4 d8 c3 Y a6 c1 c0 U e0 b6 J c8 b1 c5 a8 y c2 b3 a4 x35 O M c7 V c6 e6 W d1 d3 a3 a2 a7 d7 d5 c9 a0 a5 b0 b5 b2:D):List b8:= [[gd (sub (cP [(gd (y.rows.getD J.int.toNat []) 1),(gd (y.rows.getD J.int.toNat []) 2)] [O,M]) 0 3) 2],[.i 0],[gd (sub (cP [(gd (y.rows.getD J.int.toNat []) 1),(gd (y.rows.getD J.int.toNat []) 2)] [O,M]) 0 3) 2],[gd (sub (cP [(gd (y.rows.getD J.int.toNat []) 1),(gd (y.rows.getD J.int.toNat []) 2)] [O,M]) 0 3) 0,gd (sub (cP [(gd (y.rows.getD J.int.toNat []) 1),(gd (y.rows.getD J.int.toNat []) 2)] [O,M]) 0 3) 1],[gd (sub (cP [(gd (y.rows.getD J.int.toNat []) 1),(gd (y.rows.getD J.int.toNat []) 2)] [O,M]) 0 3) 0,gd (sub (cP [(gd (y.rows.getD J.int.toNat []) 1),(gd (y.rows.getD J.int.toNat []) 2)] [O,M]) 0 3) 1,gd (sub (cP [(gd (y.rows.getD J.int.toNat []) 1),(gd (y.rows.getD J.int.toNat []) 2)] [O,M]) 0 3) 2],[gd (sub (cP [(gd (y.rows.getD J.int.toNat []) 1),(gd (y.rows.getD J.int.toNat []) 2)] [O,M]) 0 3) 0,gd (sub (cP [(gd (y.rows.getD J.int.toNat []) 1),(gd (y.rows.getD J.int.toNat []) 2)] [O,M]) 0 3) 1,gd (sub (cP [(gd (y.rows.getD J.int.toNat []) 1),(gd (y.rows.getD J.int.toNat []) 2)] [O,M]) 0 3) 2],[(gd (y.rows.getD J.int.toNat []) 1),(gd (y.rows.getD J.int.toNat []) 2)],[O,M],[gd (y.rows.getD J.int.toNat []) 0,gd (y.rows.getD J.int.toNat []) 1,gd (y.rows.getD J.int.toNat []) 2,gd (y.rows.getD J.int.toNat []) 3],[x0,x1,x2,x3,x4,x5,x6,x7,x8],[x9],[d2,Z],[b4],[c4],[d6],[a1],[d4],[d8],[c3],[Y],[a6],[c1],[c0],[U],[e0],[b6],[J],[.b (ltI J.int (y.rows.length:Int))],[.i 0],[c8,b1,c5,a8,y,c2,b3,a4,x35],[O,M],[c7,V,c6,e6,W,d1,d3,a3,a2],[a7,d7,d5,c9,a0,a5,b0,b5,b2],[gd (y.rows.getD J.int.toNat []) 0,gd (y.rows.getD J.int.toNat []) 1,gd (y.rows.getD J.int.toNat []) 2,gd (y.rows.getD J.int.toNat []) 3],[gd (sub (cP [(gd (y.rows.getD J.int.toNat []) 1),(gd (y.rows.getD J.int.toNat []) 2)] [O,M]) 0 3) 0,gd (sub (cP [(gd (y.rows.getD J.int.toNat []) 1),(gd (y.rows.getD J.int.toNat []) 2)] [O,M]) 0 3) 1]]
theorem uh(N:Nat)(p q r:b8)(x0 x1 x2 x3 x4 x5 x6 x7 x8 x9 d4 b1 c3 c7 d7 b2 d6 d8 c6 b0 b6 c5 c4 a6 e0 e7 M d2 c1 c8 c0 J a5 c2 b5 x35 a4 a3 d1 a7 c9 e6 a8 d3 d5 b4 b3 W a2 a1 a0 O U V Z Y:D):(gZ N p q r) [x0,x1,x2,x3,x4,x5,x6,x7,x8,x9,d4,b1,c3,c7,d7,b2,d6,d8,c6,b0,b6,c5,c4,a6,e0,e7,M,d2,c1,c8,c0,J,a5,c2,b5,x35,a4,a3,d1,a7,c9,e6,a8,d3,d5,b4,b3,W,a2,a1,a0,O,U,V,Z,Y] =
 bif ltI M.int (J.rows.length:Int) then nd (ah M.int J.rows.length) (ndN 6 (em (qx N p q r x0 x1 x2 x3 x4 x5 x6 x7 x8 x9 d4 b1 c3 c7 d7 b2 d6 d8 c6 b0 b6 c5 c4 a6 e0 e7 M d2 c1 c8 c0 J a5 c2 b5 x35 a4 a3 d1 a7 c9 e6 a8 d3 d5 b4 b3 W a2 a1 a0 O U V Z Y) (qx N p q r x0 x1 x2 x3 x4 x5 x6 x7 x8 x9 d4 b1 c3 c7 d7 b2 d6 d8 c6 b0 b6 c5 c4 a6 e0 e7 M d2 c1 c8 c0 J a5 c2 b5 x35 a4 a3 d1 a7 c9 e6 a8 d3 d5 b4 b3 W a2 a1 a0 O U V Z Y)) (bif !(gd (sub (cP [(gd (J.rows.getD M.int.toNat []) 1),(gd (J.rows.getD M.int.toNat []) 2)] [a4,a3]) 0 3) 2).bool then nx [x0,x1,x2,x3,x4,x5,x6,x7,x8,x9,d4,b1,c3,c7,d7,b2,d6,d8,c6,b0,b6,c5,c4,a6,e0,e7,.i (w64 (M.int+1)),d2,c1,c8,c0,J,a5,c2,b5,x35,a4,a3,d1,a7,c9,e6,a8,d3,d5,b4,b3,W,a2,a1,a0,O,U,V,Z,Y]
 else nd (leI (a5.rows.length:Int) 1000000000) (bif ii a5 (gd (J.rows.getD M.int.toNat []) 0).int then (let y:Out:=(nx [x0,x1,x2,x3,x4,x5,x6,x7,x8,x9,d4,b1,c3,c7,d7,b2,d6,d8,c6,b0,b6,c5,c4,a6,e0,.b true,M,.b (ltI M.int (J.rows.length:Int)),.i 0,gd (sub (cP [(gd (J.rows.getD M.int.toNat []) 1),(gd (J.rows.getD M.int.toNat []) 2)] [a4,a3]) 0 3) 2,.b (!(gd (sub (cP [(gd (J.rows.getD M.int.toNat []) 1),(gd (J.rows.getD M.int.toNat []) 2)] [a4,a3]) 0 3) 2).bool),.b (ii a5 (gd (J.rows.getD M.int.toNat []) 0).int),d2,c1,c8,c0,J,a5,c2,b5,x35,a4,a3,d1,a7,c9,e6,a8,d3,d5,b4,b3,W,a2,a1,a0,O,U,V,Z,Y,gd (J.rows.getD M.int.toNat []) 0,gd (J.rows.getD M.int.toNat []) 1,gd (J.rows.getD M.int.toNat []) 2,gd (J.rows.getD M.int.toNat []) 3,gd (sub (cP [(gd (J.rows.getD M.int.toNat []) 1),(gd (J.rows.getD M.int.toNat []) 2)] [a4,a3]) 0 3) 0,gd (sub (cP [(gd (J.rows.getD M.int.toNat []) 1),(gd (J.rows.getD M.int.toNat []) 2)] [a4,a3]) 0 3) 1]);
  nd y.isSome (nx [gd y.pay 0,gd y.pay 1,gd y.pay 2,gd y.pay 3,gd y.pay 4,gd y.pay 5,gd y.pay 6,gd y.pay 7,gd y.pay 8,gd y.pay 9,gd y.pay 10,gd y.pay 11,gd y.pay 12,gd y.pay 13,gd y.pay 14,gd y.pay 15,gd y.pay 16,gd y.pay 17,gd y.pay 18,gd y.pay 19,gd y.pay 20,gd y.pay 21,gd y.pay 22,gd y.pay 23,gd y.pay 24,gd y.pay 25,.i (w64 ((gd y.pay 26).int+1)),gd y.pay 32,gd y.pay 33,gd y.pay 34,gd y.pay 35,gd y.pay 36,gd y.pay 37,gd y.pay 38,gd y.pay 39,gd y.pay 40,gd y.pay 41,gd y.pay 42,gd y.pay 43,gd y.pay 44,gd y.pay 45,gd y.pay 46,gd y.pay 47,gd y.pay 48,gd y.pay 49,gd y.pay 50,gd y.pay 51,gd y.pay 52,gd y.pay 53,gd y.pay 54,gd y.pay 55,gd y.pay 56,gd y.pay 57,gd y.pay 58,gd y.pay 59,gd y.pay 60]))
 else nd (leI (O.rows.length:Int) 100000000&&(leI (V.rows.length:Int) 100000000&&leI ([[gd (J.rows.getD M.int.toNat []) 0]].length:Int) 100000000)) (nx [x0,x1,x2,x3,x4,x5,x6,x7,x8,x9,d4,b1,c3,c7,d7,b2,d6,d8,c6,b0,b6,c5,c4,a6,e0,e7,.i (w64 (M.int+1)),d2,c1,c8,c0,J,a5,c2,b5,x35,a4,a3,d1,a7,c9,e6,a8,d3,d5,b4,b3,gd (sub (fA [W,a2,a1,a0,O,U,V,Z,Y] (.l [[gd (J.rows.getD M.int.toNat []) 0]])) 0 9) 0,gd (sub (fA [W,a2,a1,a0,O,U,V,Z,Y] (.l [[gd (J.rows.getD M.int.toNat []) 0]])) 0 9) 1,gd (sub (fA [W,a2,a1,a0,O,U,V,Z,Y] (.l [[gd (J.rows.getD M.int.toNat []) 0]])) 0 9) 2,gd (sub (fA [W,a2,a1,a0,O,U,V,Z,Y] (.l [[gd (J.rows.getD M.int.toNat []) 0]])) 0 9) 3,gd (sub (fA [W,a2,a1,a0,O,U,V,Z,Y] (.l [[gd (J.rows.getD M.int.toNat []) 0]])) 0 9) 4,U,gd (sub (fA [W,a2,a1,a0,O,U,V,Z,Y] (.l [[gd (J.rows.getD M.int.toNat []) 0]])) 0 9) 6,gd (sub (fA [W,a2,a1,a0,O,U,V,Z,Y] (.l [[gd (J.rows.getD M.int.toNat []) 0]])) 0 9) 7,gd (sub (fA [W,a2,a1,a0,O,U,V,Z,Y] (.l [[gd (J.rows.getD M.int.toNat []) 0]])) 0 9) 8]))))
 else ex 0 [x0,x1,x2,x3,x4,x5,x6,x7,x8,x9,d4,b1,c3,c7,d7,b2,d6,d8,c6,b0,b6,c5,c4,a6,e0,e7,M,d2,c1,c8,c0,J,a5,c2,b5,x35,a4,a3,d1,a7,c9,e6,a8,d3,d5,b4,b3,W,a2,a1,a0,O,U,V,Z,Y]:=by kernel_rfl
theorem Fs(N:Nat)(p q r:b8):bf f8 oP N oX Tryz.f10 (.tup [.agg d9,.c (.d (.sl 108)),.c (.d si)]) [⟨ag aR,p⟩,⟨ri,q⟩,⟨ag aI,r⟩]=some (bo,
 bif (aV (sub p 0 9) [gd q 0] (sub r 0 2)) != 0 then nd (dY (sub p 0 9)||(aV (sub p 0 9) [gd q 0] (sub r 0 2))==1) (some (1,[gd (sub (du (sub p 0 9) (aV (sub p 0 9) [gd q 0] (sub r 0 2))) 0 9) 0,gd (sub (du (sub p 0 9) (aV (sub p 0 9) [gd q 0] (sub r 0 2))) 0 9) 1,gd (sub (du (sub p 0 9) (aV (sub p 0 9) [gd q 0] (sub r 0 2))) 0 9) 2,gd (sub (du (sub p 0 9) (aV (sub p 0 9) [gd q 0] (sub r 0 2))) 0 9) 3,gd (sub (du (sub p 0 9) (aV (sub p 0 9) [gd q 0] (sub r 0 2))) 0 9) 4,gd (sub (du (sub p 0 9) (aV (sub p 0 9) [gd q 0] (sub r 0 2))) 0 9) 5,gd (sub (du (sub p 0 9) (aV (sub p 0 9) [gd q 0] (sub r 0 2))) 0 9) 6,gd (sub (du (sub p 0 9) (aV (sub p 0 9) [gd q 0] (sub r 0 2))) 0 9) 7,gd (sub (du (sub p 0 9) (aV (sub p 0 9) [gd q 0] (sub r 0 2))) 0 9) 8,.l [],.i (aV (sub p 0 9) [gd q 0] (sub r 0 2))]))
 else nd (dY (sub p 0 9)) (bif !(aT (gd p 1) (sub r 0 2)) then some (1,[gd (dpS p) 0,gd (dpS p) 1,gd (dpS p) 2,gd (dpS p) 3,gd (dpS p) 4,gd (dpS p) 5,gd (dpS p) 6,gd (dpS p) 7,gd (dpS p) 8,.l [],.i 4])
 else bif !(gd (sub (jo (gd p 2) (sub r 0 2) (.b true)) 0 2) 1).bool then some (1,[gd (dpS p) 0,gd (dpS p) 1,gd (dpS p) 2,gd (dpS p) 3,gd (dpS p) 4,gd (dpS p) 5,gd (dpS p) 6,gd (dpS p) 7,gd (dpS p) 8,.l [],.i 6])
 else (let y:Out:=(nx [gd p 0,gd p 1,gd p 2,gd p 3,gd p 4,gd p 5,gd p 6,gd p 7,gd p 8,gd q 0,gd r 0,gd r 1,.i 0,.i 0,.i 0,.l [],.i 0,.l [],.i (aV (sub p 0 9) [gd q 0] (sub r 0 2)),.b ((aV (sub p 0 9) [gd q 0] (sub r 0 2)) != 0),.i 0,.b (!(aT (gd p 1) (sub r 0 2))),gd (sub (jo (gd p 2) (sub r 0 2) (.b true)) 0 2) 0,gd (sub (jo (gd p 2) (sub r 0 2) (.b true)) 0 2) 1,.b (!(gd (sub (jo (gd p 2) (sub r 0 2) (.b true)) 0 2) 1).bool),.b false,gd p 0,gd p 1,gd p 2,gd p 3,gd p 4,gd p 5,gd p 6,gd p 7,gd p 8,gd r 0,gd r 1,.i 0,.l [],.l [],.l [],.l [],.l [],.l [],.l [],.i 0,gd (dpS p) 0,gd (dpS p) 1,gd (sub (jo (gd p 2) (sub r 0 2) (.b true)) 0 2) 0,gd (dpS p) 3,gd (dpS p) 4,gd (dpS p) 5,gd (dpS p) 6,gd (dpS p) 7,gd q 0]);
  nd y.isSome ((let J:=aX (gZ N p q r) N [gd y.pay 0,gd y.pay 1,gd y.pay 2,gd y.pay 3,gd y.pay 4,gd y.pay 5,gd y.pay 6,gd y.pay 7,gd y.pay 8,gd y.pay 9,gd y.pay 10,gd y.pay 11,gd y.pay 12,gd y.pay 13,gd y.pay 14,gd y.pay 15,gd y.pay 16,gd y.pay 17,gd y.pay 18,gd y.pay 19,gd y.pay 20,gd y.pay 21,gd y.pay 22,gd y.pay 23,gd y.pay 24,gd y.pay 25,.i 0,gd y.pay 26,gd y.pay 27,gd y.pay 28,gd y.pay 29,gd y.pay 30,gd y.pay 31,gd y.pay 32,gd y.pay 33,gd y.pay 34,gd y.pay 35,gd y.pay 36,gd y.pay 37,gd y.pay 38,gd y.pay 39,gd y.pay 40,gd y.pay 41,gd y.pay 42,gd y.pay 43,gd y.pay 44,gd y.pay 45,gd y.pay 46,gd y.pay 47,gd y.pay 48,gd y.pay 49,gd y.pay 50,gd y.pay 51,gd y.pay 52,gd y.pay 53,gd y.pay 54]
  nd J.isSome (nd (J.code==2) (bif (gd J.pay 25).bool then some (1,[gd J.pay 47,gd J.pay 48,gd J.pay 49,gd J.pay 50,gd J.pay 51,gd J.pay 52,gd J.pay 53,gd J.pay 54,gd J.pay 55,gd J.pay 17,.i 5])
  else nd (leI ((gd J.pay 30).rows.length:Int) 1000000000) (some (1,[gd J.pay 47,gd J.pay 48,gd J.pay 49,gd J.pay 50,gd J.pay 51,gd J.pay 52,gd J.pay 53,gd J.pay 54,gd J.pay 55,pk (gd J.pay 30) (sub J.pay 36 2) true,.i 0]))))))))):=by kernel_rfl
def ww:Ent:=(10,e3 (ag aR) ri (ag aI) fun p q r=>(⟨.tup [.agg d9,.c (.d (.sl 108)),.c (.d si)],sub (aeV p (gd q 0) r) 0 11⟩,true))
theorem Gu:ay f8 ww:=gW fun p q r h=>au (N:=(gd p 4).rows.length+1) (ks:=oX) (al (fC ⟨pE,fC ⟨jO,fC ⟨fM,fC ⟨gn,fC ⟨wU,fC ⟨gL,fC ⟨md,fC ⟨vq,fC ⟨qB,fC ⟨yM,fN⟩⟩⟩⟩⟩⟩⟩⟩⟩⟩)) Tryz.func10 fun hw=>by
 rw[Fs];unfold aeV;rw[EH];cases hc:(aV (sub p 0 9) [gd q 0] (sub r 0 2)) != 0 with
 | true =>rw[g6,g6,aU];rfl
 | false =>
 obtain⟨hsh,a3⟩:=Mz hc;rw[gr hsh];obtain⟨a4,y,M,J,a0,_⟩:=dF hsh;have y:(gd p 4).rows.length<=40:=y;have M:(gd p 5).rows.length<=60:=M;have J:(gd p 6).rows.length<=60:=J;rw[f9,f9,aU];have O:(aV (sub p 0 9) [gd q 0] (sub r 0 2))=0:=by simpa using hc
 rw[O];cases Y:aT (gd p 1) (sub r 0 2) with
 | false=>rfl
 | true =>
 rw[n4,f9,f9];cases Z:(gd (sub (jo (gd p 2) (sub r 0 2) (.b true)) 0 2) 1).bool with
 | false=>rfl
 | true =>
 rw[n4,f9,f9];have e:=cJ (L:=gZ ((gd p 4).rows.length+1) p q r) (fun k => [gd p 0,gd p 1,gd p 2,gd p 3,gd p 4,gd p 5,gd p 6,gd p 7,gd p 8,gd q 0,gd r 0,gd r 1,.i 0,.i 0,.i 0,.l [],.i 0,.l [],.i 0,.b false,.i 0,.b (!(aT (gd p 1) (sub r 0 2))),gd (sub (jo (gd p 2) (sub r 0 2) (.b true)) 0 2) 0,gd (sub (jo (gd p 2) (sub r 0 2) (.b true)) 0 2) 1,.b (!(gd (sub (jo (gd p 2) (sub r 0 2) (.b true)) 0 2) 1).bool),.b (pP (.l (gd p 4).rows) (.l (gd p 6).rows) (gd p 4) (Bo r) (AT p) k).2.2,.i (k:Int),gd p 0,gd p 1,gd p 2,gd p 3,gd p 4,gd p 5,gd p 6,gd p 7,gd p 8,gd r 0,gd r 1,.i 0,.l [],.l [],.l [],.l [],.l [],.l [],.l [],.i 0,gd p 0,.l (gd p 1).rows,gd (sub (jo (gd p 2) (sub r 0 2) (.b true)) 0 2) 0,.l (gd p 3).rows,(pP (.l (gd p 4).rows) (.l (gd p 6).rows) (gd p 4) (Bo r) (AT p) k).1,gd (dpS p) 5,(pP (.l (gd p 4).rows) (.l (gd p 6).rows) (gd p 4) (Bo r) (AT p) k).2.1,.l (gd p 7).rows,gd q 0]) (gd p 4).rows.length 0 (fun k hk=>?_) ?_ (N:=(gd p 4).rows.length+1) (by omega)
 ·simp only[j9,pP] at e;rw[Y,Z,n4] at e;dsimp only at e ⊢;dsimp only[Out.pay,Out.code,Option.getD_some,Option.isSome_some];simp only[aq,ap,lB,aU];rw[Ut e]
  case e=>rfl
  dsimp only[Out.pay,Out.code,Option.getD_some,Option.isSome_some];simp only[aq,ap];unfold abT;have U:leI ((gd p 3).rows.length:Int) 1000000000=true:=bi (by have:=(dF hsh).2.2.2.2.2.1;simp only[aN,a9,leI,g5] at this;have:=this.2;have h3:((gd p 3).rows.length:Int)<=60:=this;omega);cases (pP (.l (gd p 4).rows) (.l (gd p 6).rows) (gd p 4) (Bo r) (AT p) (gd p 4).rows.length).2.2
  ·show some (bo,nd (leI ((gd p 3).rows.length:Int) 1000000000) _)=_;rw[U];rfl
  ·rfl
 ·show gZ _ p q r [_,_,_,_,_,_,_,_,_,_,_,_,_,_,_,_,_,_,_,_,_,_,_,_,_,_,.i (k:Int),_,_,_,_,_,_,_,_,_,_,_,_,_,_,_,_,_,_,_,_,_,_,_,_,_,_,_,_,_]=_;rw[uh];obtain⟨V,W⟩:=LL (.l (gd p 4).rows) (.l (gd p 6).rows) (gd p 4) (Bo r) (AT p) k;have V:_<=(gd p 4).rows.length:=V;have W:_<=(gd p 6).rows.length+k:=W;simp only[aA,di hk,bu hk,g8,bn,lB,aU,aG hk (show (gd p 4).rows.length<=9223372036854775807 by omega),bi (show ((gd p 5).rows.length:Int)<=1000000000 by omega),bi (show ((pP (.l (gd p 4).rows) (.l (gd p 6).rows) (gd p 4) (Bo r) (AT p) k).1.rows.length:Int)<=100000000 by omega),bi (show ((pP (.l (gd p 4).rows) (.l (gd p 6).rows) (gd p 4) (Bo r) (AT p) k).2.1.rows.length:Int)<=100000000 by omega)];rw[pP,Bo,AT];cases (gd (sub (cP [gd ((gd p 4).rows.getD k []) 1,gd ((gd p 4).rows.getD k []) 2] [gd r 0,gd r 1]) 0 3) 2).bool
  ·rfl
  ·cases ii (gd p 5) (gd ((gd p 4).rows.getD k []) 0).int
   ·rfl
   ·simp only[g6,f9,n4,Out.pay,z6,B1,aq,ap,aA,lB,aU,aG hk (show (gd p 4).rows.length<=9223372036854775807 by omega)]
 ·show gZ _ p q r [_,_,_,_,_,_,_,_,_,_,_,_,_,_,_,_,_,_,_,_,_,_,_,_,_,_,.i ((gd p 4).rows.length:Int),_,_,_,_,_,_,_,_,_,_,_,_,_,_,_,_,_,_,_,_,_,_,_,_,_,_,_,_,_]=_;rw[uh];simp only[aA,ca]
open Go.RowKit Go.Lib
def SmS(n:Nat)(l:b8):Prop:=(gd l 1).rows.length<=n/\(gd l 2).rows.length<=n/\(gd l 3).rows.length<=n/\(gd l 4).rows.length<=n/\(gd l 5).rows.length<=n/\(gd l 6).rows.length<=n/\(gd l 7).rows.length<=n/\∀r∈(gd l 5).rows,(gd r 1).rows.length<=n
theorem AG{m n:Nat}{l:b8}(h:SmS m l)(Z:m<=n):SmS n l:=by obtain⟨h1,O,Y,U,W,M,V,y⟩:=h;exact⟨by omega,by omega,by omega,by omega,by omega,by omega,by omega,fun r J=>by have:=y r J;omega⟩
theorem AX{p:b8}(h:aW p=true):SmS 60 p:=by have s:=(gf _).1 h;obtain⟨_,W,_,_,_,M,h1,J⟩:=dF h;simp only[bB,aN,a9,leI,g5] at h1 J M;have O:=h1.2;have U:=J.2;have V:=M.2;exact⟨by omega,by omega,by omega,by omega,sR s.h fun r y=>(s.h1 r y).tx,sR s.w s.w1,sR s.e s.e1,fun r y=>kM (s.h1 r y).ws⟩
theorem mF{p:b8}{n:Nat}(h:SmS n p):SmS n (Gy p):=by
 obtain⟨h1,O,Y,U,W,J,V,M⟩:=h;refine⟨h1,O,Y,U,m8 (jy _ _ _) W,J,V,fun r y=>?_⟩;have e:(gd (Gy p) 5).rows=(gd p 5).rows.map fun r => [gd r 0,.l (gd r 1).rows]:=congrArg D.rows (eG p)
 rw[e] at y;obtain⟨x,Z,rfl⟩:=A8.1 y;exact M x Z
theorem NJ(n:Nat)(a b:D)(t:b8):SmS n ([a,.l [],.l [],.l [],.l [],.l [],.l [],.l [],b]++t):=⟨n5 _,n5 _,n5 _,n5 _,n5 _,n5 _,n5 _,fun r y=>by cases y⟩
theorem Mo(z:D)(a:b8)(wi:D):(gd (sub (jo z a wi) 0 2) 0).rows.length<=1000:=by
 show (bif Pd z a wi then (Gz z a wi).rows else[]).length<=1000;cases Pd z a wi
 ·exact n5 _
 ·exact acP _ _
theorem Ru(z u:D):∀k,(rM z u k).rows.length<=z.rows.length+k
 | 0=>i8 _
 | k+1=>by have y:=Ru z u k;have h:=ST (prs (rM z u k)) (gd (u.rows.getD k []) 0).int (gd (u.rows.getD k []) 1).int true;rw[ew] at h;show (prD (pH _ _ _ _)).rows.length<=_;rw[ajW];revert h;cases Kv (prs (rM z u k)) (gd (u.rows.getD k []) 0).int <;> simp only[y7,n4,A4,g6,f9] <;> omega
theorem aei{z u:D}(hz:z.rows.length<=60)(y:u.rows.length<=1000):(gd (sub (mD z u) 0 2) 0).rows.length<=1060:=by
 show (bif PJ z u then (rM z u u.rows.length).rows else[]).length<=1060;cases PJ z u
 ·exact n5 _
 ·have:=Ru z u u.rows.length;show (rM z u u.rows.length).rows.length<=1060;omega
theorem alv(p:b8)(n z u:D):SmS 5000 (prS p n z u):=by
 have no:∀t,SmS 5000 (jI++t):=fun t=>NJ _ _ _ _
 unfold prS;cases y:qq p n z u&&nA z with
 | false=>exact no _
 | true =>
 unfold qq at y;simp only[a9] at y;obtain⟨⟨hsh,_,_,hwo⟩,_⟩:=y;have W:SmS 60 (sub p 0 9):=AX hsh;have U:=AG (mF W) (show 60<=5000 by decide);have hw:=kM hwo;have J:∀c,SmS 5000 (dpS p ++ [c]):=fun c=>U
 have h4:(gd p 4).rows.length<=40:=(dF hsh).2.1;have h6:(gd p 6).rows.length<=60:=W.2.2.2.2.2.1;cases aC (gd p 7) n.int with
 | true=>exact J _
 | false =>
 cases ii (gd p 5) n.int with
 | true=>exact J _
 | false =>
 cases aC (gd p 6) n.int with
 | true=>exact J _
 | false =>
 cases ia p n z with
 | false=>exact J _
 | true =>
 cases iF p u with
 | false=>exact J _
 | true =>
 simp only[n4,g6,f9];cases (List.range u.rows.length).find? (fun k=>(iD p n u k).int != 0) with
 | some k=>exact J _
 | none =>
 show SmS 5000 (aeJ p n u);unfold aeJ;cases Kb p u with
 | true=>exact J _
 | false =>
 obtain⟨a1,a2⟩:=Ip p n u h4 u.rows.length;have hh:=VF (gd (dpS p) 5) n [n,.l u.rows] (gd (dpS p) 5).rows.length;have M:∀k,∀r∈(hS (gd (dpS p) 5) n [n,.l u.rows] k).1,k<=(gd (dpS p) 5).rows.length->(gd r 1).rows.length<=5000:=fun k=>by
  induction k with
  | zero=>exact fun r y=>by cases y
  | succ k Y =>
   intro r y hk;have O:(gd (sub ((gd (dpS p) 5).rows.getD k []) 0 2) 1).rows.length<=5000:=by have:=U.2.2.2.2.2.2.2 ((gd (dpS p) 5).rows.getD k []) (by rw[aZ hk];exact v6 hk);exact this
   have V:(gd [n,D.l u.rows] 1).rows.length<=5000:=by show u.rows.length<=5000;omega
   rw[hS] at y;cases hc : !(hS (gd (dpS p) 5) n [n,.l u.rows] k).2&&ltI n.int (gd ((gd (dpS p) 5).rows.getD k []) 0).int with
   | true =>
    rw[hc] at y;have y:r∈(hS (gd (dpS p) 5) n [n,.l u.rows] k).1 ++ [[n,.l u.rows]] ++ [sub ((gd (dpS p) 5).rows.getD k []) 0 2]:=y;simp only[n3,y5] at y;rcases y with (y | rfl) | rfl
    ·exact Y r y (by omega)
    ·exact V
    ·exact O
   | false =>
    rw[hc] at y;have y:r∈(hS (gd (dpS p) 5) n [n,.l u.rows] k).1 ++ [sub ((gd (dpS p) 5).rows.getD k []) 0 2]:=y;simp only[n3,y5] at y;rcases y with y | rfl
    ·exact Y r y (by omega)
    ·exact O
 have h5:(gd (dpS p) 5).rows.length<=60:=(mF W).2.2.2.2.1;have rx:(JK (gd (dpS p) 5) n [n,.l u.rows]).rows.length<=121/\∀r∈(JK (gd (dpS p) 5) n [n,.l u.rows]).rows,(gd r 1).rows.length<=5000:=by
  unfold JK;cases !(hS (gd (dpS p) 5) n [n,.l u.rows] (gd (dpS p) 5).rows.length).2 with
  | true =>
   refine⟨?_,fun r y=>?_⟩
   ·show ((hS (gd (dpS p) 5) n [n,.l u.rows] (gd (dpS p) 5).rows.length).1 ++ [[n,D.l u.rows]]).length<=121;rw[i6,n9];omega
   ·rcases n3.1 y with y | y
    ·exact M _ r y (i8 _)
    ·rw[y5.1 y];show u.rows.length<=5000;omega
  | false=>exact⟨by show (hS (gd (dpS p) 5) n [n,.l u.rows] (gd (dpS p) 5).rows.length).1.length<=121;omega,fun r y=>M _ r y (i8 _)⟩
 obtain⟨d1,Z,d3,d4,d5,d6,d7,d8⟩:=U;exact⟨d1,Z,d3,by show (dm p n u u.rows.length).1.rows.length<=5000;omega,by show (JK _ _ _).rows.length<=5000;omega,by show (dm p n u u.rows.length).2.rows.length<=5000;omega,d7,rx.2⟩
theorem aky(p:b8)(q:D)(r:b8):SmS 5000 (aeV p q r):=by
 unfold aeV;cases hc:aV (sub p 0 9) [q] (sub r 0 2) != 0 with
 | true =>
  rw[g6];generalize y:aV (sub p 0 9) [q] (sub r 0 2)=c;unfold du;cases h1:c==1 with
  | true=>exact NJ _ _ _ _
  | false =>
   have hsh:aW (sub p 0 9)=true:=by
    cases hs:aW (sub p 0 9) with
    | true=>rfl
    | false =>unfold aV at y;rw[show sub (sub p 0 9) 0 9=sub p 0 9 from rfl,hs] at y;have:(1:Int)=c:=y;rw[<- this] at h1;cases h1
   exact AG (mF (AX hsh)) (by decide)
 | false =>
 obtain⟨hsh,a0⟩:=Mz hc;have M:SmS 60 (sub p 0 9):=AX hsh;have J:=AG (mF M) (show 60<=5000 by decide);have V:∀t,SmS 5000 (dpS p++t):=fun t=>J
 rw[f9];cases aT (gd p 1) (sub r 0 2) with
 | false=>exact V _
 | true =>
 cases (gd (sub (jo (gd p 2) (sub r 0 2) (.b true)) 0 2) 1).bool with
 | false=>exact V _
 | true =>
 show SmS 5000 (abT p q r _);unfold abT;obtain⟨w1,W⟩:=LL (.l (gd p 4).rows) (.l (gd p 6).rows) (gd p 4) (Bo r) (AT p) (gd p 4).rows.length;obtain⟨p1,p2,p3,O,p5,U,p7,p8⟩:=M;have O:(gd p 4).rows.length<=60:=O;have U:(gd p 6).rows.length<=60:=U;have w1:_<=(gd p 4).rows.length:=w1;have W:_<=(gd p 6).rows.length+_:=W;obtain⟨d1,d2,Y,d4,Z,d6,d7,d8⟩:=J;exact⟨d1,m8 (Mo _ _ _) (by decide),Y,by show (pP _ _ _ _ _ _).1.rows.length<=5000;omega,Z,by show (pP _ _ _ _ _ _).2.1.rows.length<=5000;omega,d7,d8⟩
abbrev sN:=find [kH,nX,xc,yC]
abbrev tc:=[0,1,4,5,6,7,15,23,46,6000006]
def yF(N:Nat)(p q:b8):b8->Out:=bb f8 sN N tc Tryz.f143 (.tup [.c (.d (.sl 108)),.c (.d .bool)]) [⟨sd (.sl 108),p⟩,⟨sd (.sl 70),q⟩] 0
theorem Mv(N:Nat)(p q:b8)(y:b8):(yF N p q) (sub y 0 7) =
 bif ltI (gd y 6).int ((gd y 1).rows.length:Int) then nd (ah (gd y 6).int (gd y 1).rows.length) (nd (ah (gd y 6).int (gd y 1).rows.length) (nd (ah (gd y 6).int (gd y 1).rows.length) (nd (cI (gd y 5)) (nx (sub y 0 5 ++ [prD (pH (prs (gd y 5)) (gd ((gd y 1).rows.getD (gd y 6).int.toNat []) 0).int (gd ((gd y 1).rows.getD (gd y 6).int.toNat []) 1).int (leI 0 (gd ((gd y 1).rows.getD (gd y 6).int.toNat []) 1).int)),.i (w64 ((gd y 6).int+1))])))))
 else ex 0 (sub y 0 7):=by kernel_rfl
def xw(N:Nat)(p q:b8)(y:Out):Out:=
 bif ltI 60 ((gd y.pay 5).rows.length:Int) then some (1,[.l [],.b false])
  else some (1,[gd y.pay 5,.b true])
def kf(N:Nat)(p q:b8):Out:=
 bif !(aN (gd p 0)) then some (1,[.l [],.b false])
 else bif !(aL (gd q 0)) then some (1,[.l [],.b false])
 else nd (bl ([]++(gd p 0).rows)&&true) ((let y:=aX (yF N p q) N [gd p 0,gd q 0,.l [],.i 0,.b (!(aL (gd q 0))),.l ([]++(gd p 0).rows),.i 0];
  nd y.isSome (nd (y.code==2) (xw N p q y))))
theorem KE(N:Nat)(p q:b8):bf f8 sN N tc Tryz.f143 (.tup [.c (.d (.sl 108)),.c (.d .bool)]) [⟨sd (.sl 108),p⟩,⟨sd (.sl 70),q⟩]=some (bo,kf N p q):=by kernel_rfl
@[irreducible] def gI(p:D)(q:D):b8:=sub (kf (62) [p] [q]).pay 0 2
theorem wy(p q:b8)(h:(true)=true):GG (fun c l=>c=1/\l=sub l 0 2/\((gd l 0).rows.length<=60)) (kf (62) p q):=by
 refine bt (fun y=>bc ⟨rfl,ar _,n5 _⟩) (fun y=>bt (fun O=>bc ⟨rfl,ar _,n5 _⟩) (fun O=>gnd ?_ (?_)))
 ·have y:aN (gd p 0)=true:=by simpa using y
  exact dp (ci (by have:=((ij _).1 y).2.2;show (gd p 0).rows.length<=4294967296;omega)) rfl
 ·have y:aN (gd p 0)=true:=by simpa using y
  have O:aL (gd q 0)=true:=by simpa using O
  have hl:=kM O;refine git (K:=xw 62 p q) (c:=2) (fun l=>True) ?_ ?_
  ·refine ir (I:=fun k s=>s=sub s 0 7/\(gd s 6).int=(k:Int)/\gd s 1=gd q 0/\cI (gd s 5)=true/\k<=60) 60 (fun k s W=>?_) 62 0 _ ⟨ar _,rfl,rfl,xo.2 (SS y),n5 _⟩ (by decide) (n5 _);obtain⟨e,hi,h1,hc,hk⟩:=W;have hw:w64 ((gd s 6).int+1)=((k+1:Nat):Int):=by rw[bD (by omega) (by omega)];omega
   have hin:ltI (gd s 6).int ((gd s 1).rows.length:Int)=true->ah (gd s 6).int (gd s 1).rows.length=true:=fun J=>by have J:(gd s 6).int<((gd s 1).rows.length:Int):=i7 J;rw[hi];exact bK (by omega)
   have V:ltI (gd s 6).int ((gd s 1).rows.length:Int)=true->k<60:=fun J=>by have J:(gd s 6).int<((gd s 1).rows.length:Int):=i7 J;rw[h1] at J;omega
   have U:ltI (gd s 6).int ((gd s 1).rows.length:Int)=true->∀v b,cI (prD (pH (prs (gd s 5)) (gd ((gd s 1).rows.getD (gd s 6).int.toNat []) 0).int v b))=true:=fun J v b=>by have J:(gd s 6).int<((gd s 1).rows.length:Int):=i7 J;rw[h1,hi,g8];have M:=(zR O (show k<(gd q 0).rows.length by rw[h1] at J;omega)).1;simp only[inB,a9,g5] at M;rw[xo,zO];exact Lr (xo.1 hc) M _ _
   refine grd e (geq (Mv _ _ _ s) (bt (fun y=>gnd ?_ (gnd ?_ (gnd ?_ (gnd ?_ (bc (.inl ⟨rfl,V y,ar _,hw,h1,U y _ _,V y⟩)))))) (fun y=>bc (.inr ⟨by decide,rfl,trivial⟩))))
   all_goals first | exact hin y | exact hc
  ·intro l _;refine bt (fun y=>bc ⟨rfl,ar _,?_⟩) (fun y=>bc ⟨rfl,ar _,?_⟩)
   ·exact n5 _
   ·have y:¬(60:Int)<((gd l 5).rows.length:Int):=L5 y;show (gd l 5).rows.length<=60;omega
theorem Ps{p:D}{q:D}(h:(true)=true):(gd (gI p q) 0).rows.length<=60:=by unfold gI;exact (cH (wy [p] [q] h)).2
theorem PX(N:Nat)(p q:b8):kf N p q=kf N [gd p 0] [gd q 0]:=by kernel_rfl
def sB:Ent:=(143,e2 (sd (.sl 108)) (sd (.sl 70)) fun p q=>(⟨.tup [.c (.d (.sl 108)),.c (.d .bool)],gI (gd p 0) (gd q 0)⟩,true))
theorem wF:ay f8 sB:=bm fun p q h=>au (N:=62) (ks:=tc) (al (fC ⟨jC,fC ⟨nL,fC ⟨Ao,fC ⟨xF,fN⟩⟩⟩⟩)) Tryz.func143 fun hw=>by rw[KE];exact congrArg (fun x=>some (bo,x)) (((PX _ p q).trans (cH (wy [gd p 0] [gd q 0] h)).1).trans (by unfold gI;exact rfl))
abbrev Cg:=find []
theorem Qm:av f8 Cg:=al (fN)
abbrev CW:=[0,1,4,5,6,11,19]
def JY(N:Nat)(p q:b8):b8->Out:=bb f8 Cg N CW Tryz.f145 (.one (.c (.d (.sl 3)))) [⟨sd (.sl 3),p⟩,⟨ri,q⟩] 0
theorem WE(N:Nat)(p q:b8)(y:b8):(JY N p q) (sub y 0 5) =
 bif ltI (gd y 4).int ((gd y 0).rows.length:Int) then nd (ah (gd y 4).int (gd y 0).rows.length) (bif (gd ((gd y 0).rows.getD (gd y 4).int.toNat []) 0).int != (gd y 1).int then nd (ah (gd y 4).int (gd y 0).rows.length) (nd (bl ((gd y 3).rows ++ [[gd ((gd y 0).rows.getD (gd y 4).int.toNat []) 0]])&&true) (nx [gd y 0,gd y 1,gd y 2,.l ((gd y 3).rows ++ [[gd ((gd y 0).rows.getD (gd y 4).int.toNat []) 0]]),.i (w64 ((gd y 4).int+1))]))
 else nx [gd y 0,gd y 1,gd y 2,gd y 3,.i (w64 ((gd y 4).int+1))])
 else ex 0 [gd y 0,gd y 1,gd y 2,gd y 3,gd y 4]:=by kernel_rfl
def Js(N:Nat)(p q:b8)(y:Out):Out:=
 some (1,[gd y.pay 3])
def mI(N:Nat)(p q:b8):Out:=
 (let y:=aX (JY N p q) N [gd p 0,gd q 0,.l [],.l [],.i 0];
  nd y.isSome (nd (y.code==2) (Js N p q y)))
theorem TF(N:Nat)(p q:b8):bf f8 Cg N CW Tryz.f145 (.one (.c (.d (.sl 3)))) [⟨sd (.sl 3),p⟩,⟨ri,q⟩]=some (bo,mI N p q):=by kernel_rfl
@[irreducible] def ni(p:D)(q:D):b8:=sub (mI (p.rows.length+1) [p] [q]).pay 0 1
theorem EI(p q:b8)(h:(leI ((gd p 0).rows.length:Int) 1000000)=true):GG (fun c l=>c=1/\l=sub l 0 1/\((gd l 0).rows.length<=(gd p 0).rows.length)) (mI ((gd p 0).rows.length+1) p q):=by
 have h:((gd p 0).rows.length:Int)<=1000000:=i7 h;unfold mI;refine git (K:=Js ((gd p 0).rows.length+1) p q) (c:=2) (fun l=>(gd l 3).rows.length<=(gd p 0).rows.length) ?_ ?_
 rotate_left
 ·intro l hl;exact bc ⟨rfl,ar _,hl⟩
 refine ir (I:=fun k s=>s=sub s 0 5/\(gd s 4).int=(k:Int)/\gd s 0=gd p 0/\(gd s 3).rows.length<=k/\k<=(gd p 0).rows.length) (gd p 0).rows.length (fun k s V=>?_) _ 0 _ ⟨ar _,rfl,rfl,i8 _,n5 _⟩ (by omega) (n5 _);obtain⟨e,hi,O,Y,hk⟩:=V;have hw:w64 ((gd s 4).int+1)=((k+1:Nat):Int):=by rw[bD (by omega) (by omega)];omega
 have y:ltI (gd s 4).int ((gd s 0).rows.length:Int)=true->k<(gd s 0).rows.length:=fun y=>by have y:(gd s 4).int<((gd s 0).rows.length:Int):=i7 y;omega
 have M:ltI (gd s 4).int ((gd s 0).rows.length:Int)=true->k<(gd p 0).rows.length:=fun W=>by
  have:=y W
  rwa [O] at this
 refine grd e (geq (WE _ _ _ s) (bt (fun J=>gnd ?_ (bt (fun U=>gnd ?_ (gnd ?_ (bc (.inl ⟨rfl,M J,ar _,hw,O,?_,M J⟩)))) (fun U=>bc (.inl ⟨rfl,M J,ar _,hw,O,?_,M J⟩)))) (fun J=>bc (.inr ⟨by decide,rfl,?_⟩))))
 all_goals first
  | (rw[hi];exact bK (y J))
  | exact dQ (by omega)
  | (simp only[aq,ap,bd,i6,n9];omega)
  | (simp only[aq,ap];omega)
theorem XR{p:D}{q:D}(h:(leI (p.rows.length:Int) 1000000)=true):(gd (ni p q) 0).rows.length<=p.rows.length:=by unfold ni;exact (cH (EI [p] [q] h)).2
theorem WW(N:Nat)(p q:b8):mI N p q=mI N [gd p 0] [gd q 0]:=by kernel_rfl
def Mt:Ent:=(145,e2 (sd (.sl 3)) ri fun p q=>(⟨.one (.c (.d (.sl 3))),[gd (ni (gd p 0) (gd q 0)) 0]⟩,leI ((gd p 0).rows.length:Int) 1000000))
theorem VJ:ay f8 Mt:=bm fun p q h=>au (N:=(gd p 0).rows.length+1) (ks:=CW) Qm Tryz.func145 fun hw=>by rw[TF];exact congrArg (fun x=>some (bo,x)) (((WW _ p q).trans (cH (EI [gd p 0] [gd q 0] h)).1).trans (by unfold ni;exact congrArg (fun z=>some (1,z)) (amC _)))
abbrev EO:=find [kU]
abbrev Eb:=[0,1,4,5,13]
def lX(N:Nat)(p q:b8):Out:=
 nd (bl ([]++(gd q 0).rows)&&true) (bif !(aW [gd p 0,.l ([]++(gd q 0).rows),.l [],.l [],.l [],.l [],.l [],.l [],.i 0]) then some (1,[.i 0,.l [],.l [],.l [],.l [],.l [],.l [],.l [],.i 0])
 else some (1,[gd p 0,.l ([]++(gd q 0).rows),.l [],.l [],.l [],.l [],.l [],.l [],.i 0]))
theorem Mf(N:Nat)(p q:b8):bf f8 EO N Eb Tryz.f226 (.one (.agg d9)) [⟨ri,p⟩,⟨sd (.sl 41),q⟩]=some (bo,lX N p q):=by kernel_rfl
@[irreducible] def jG(p:D)(q:D):b8:=sub (lX (0) [p] [q]).pay 0 9
theorem xu(p q:b8)(h:(Hx (gd q 0))=true):GG (fun c l=>c=1/\l=sub l 0 9/\(SmS 5000 l)) (lX (0) p q):=by
 have h:((gd q 0).rows.length:Int)<=1000:=i7 h;refine gnd ?_ (bt (fun y=>bc ⟨rfl,ar _,?_⟩) (fun y=>bc ⟨rfl,ar _,?_⟩))
 ·exact dp (ci (by show (gd q 0).rows.length<=_;omega)) rfl
 ·exact NJ _ _ _ []
 ·exact⟨by show (gd q 0).rows.length<=5000;omega,n5 _,n5 _,n5 _,n5 _,n5 _,n5 _,fun r J=>by cases J⟩
theorem Rb{p:D}{q:D}(h:(Hx q)=true):SmS 5000 (jG p q):=by unfold jG;exact (cH (xu [p] [q] h)).2
theorem QY(N:Nat)(p q:b8):lX N p q=lX N [gd p 0] [gd q 0]:=by kernel_rfl
def Gq:Ent:=(226,e2 ri (sd (.sl 41)) fun p q=>(⟨.one (.agg d9),jG (gd p 0) (gd q 0)⟩,Hx (gd q 0)))
theorem Pe:ay f8 Gq:=bm fun p q h=>au (N:=0) (ks:=Eb) (al (fC ⟨jR,fN⟩)) Tryz.func226 fun hw=>by rw[Mf];exact congrArg (fun x=>some (bo,x)) (((QY _ p q).trans (cH (xu [gd p 0] [gd q 0] h)).1).trans (by unfold jG;exact rfl))
abbrev Av:=find [kU,ou,fD,gw,nq,vW,CG,sH,vJ,CF,pV,uS]
abbrev Bh:=[0,1,2,3,5,6,7,8,9,10,11,12,13,27,32,44,51,70]
def iY(N:Nat)(p q r:b8):List b8:= [[.i (eT [(gd (sub (ed (gd p 4) (aF (gd p 5)) (gd q 0) (sub r 0 2) (.i 1)) 0 3) 2)])],[.l []],[.i (eT [(gd (sub (ed (gd p 4) (aF (gd p 5)) (gd q 0) (sub r 0 2) (.i 1)) 0 3) 2)])],[.l []],[gd (sub (ed (gd p 4) (aF (gd p 5)) (gd q 0) (sub r 0 2) (.i 1)) 0 3) 2],[gd (dpS p) 0,gd (dpS p) 1,gd (dpS p) 2,gd (dpS p) 3,gd (dpS p) 4,gd (dpS p) 5,gd (dpS p) 6,gd (dpS p) 7,gd (dpS p) 8],p,q,r,[.i 0],[.i 0],[.i 0],[.l []],[.b (!(ax (sub r 0 2)))],[.i 0],[gd (sub (ed (gd p 4) (aF (gd p 5)) (gd q 0) (sub r 0 2) (.i 1)) 0 3) 0],[gd (sub (ed (gd p 4) (aF (gd p 5)) (gd q 0) (sub r 0 2) (.i 1)) 0 3) 1],[gd (sub (ed (gd p 4) (aF (gd p 5)) (gd q 0) (sub r 0 2) (.i 1)) 0 3) 2],[.b ((gd (sub (ed (gd p 4) (aF (gd p 5)) (gd q 0) (sub r 0 2) (.i 1)) 0 3) 2).int != 0)],[gd p 0,gd p 1,gd p 2,gd p 3,gd p 4,gd p 5,gd p 6,gd p 7,gd p 8],[gd r 0,gd r 1],[gd (dpS p) 0,gd (dpS p) 1,gd (dpS p) 2,gd (dpS p) 3,gd (dpS p) 4,gd (dpS p) 5,gd (dpS p) 6,gd (dpS p) 7,gd (dpS p) 8],[gd (dpS p) 0,gd (dpS p) 1,gd (dpS p) 2,gd (dpS p) 3,gd (dpS p) 4,gd (dpS p) 5,gd (dpS p) 6,gd (dpS p) 7,gd (dpS p) 8]]
def gV(p q r:b8):b8:=sub (ed (gd p 4) (aF (gd p 5)) (gd q 0) (sub r 0 2) (.i 1)) 0 3
def lY(p q r:b8):b8:=fA [gd (dpS p) 0,gd (dpS p) 1,gd (dpS p) 2,gd (dpS p) 3,gd (gV p q r) 0,gd (dpS p) 5,gd (dpS p) 6,gd (dpS p) 7,gd (dpS p) 8] (gd (gV p q r) 1)
def gJ(N:Nat)(p q r:b8):Out:=
 bif !(aW (sub p 0 9)) then some (1,[.i 0,.l [],.l [],.l [],.l [],.l [],.l [],.l [],.i 0,.l [],.i 1])
 else bif !(inB (gd q 0).int 1 60) then some (1,[.i 0,.l [],.l [],.l [],.l [],.l [],.l [],.l [],.i 0,.l [],.i 1])
 else bif !(ax (sub r 0 2)) then some (1,[.i 0,.l [],.l [],.l [],.l [],.l [],.l [],.l [],.i 0,.l [],.i 1])
 else nd (dY (sub p 0 9)) (bif aC (gd p 7) (gd q 0).int then some (1,sub (dpS p) 0 9 ++ [.l [],.i 2])
 else nd (leI ((gd p 5).rows.length:Int) 1000000000) (bif ii (gd p 5) (gd q 0).int then some (1,sub (dpS p) 0 9 ++ [.l [],.i 2])
 else bif aC (gd p 6) (gd q 0).int then some (1,sub (dpS p) 0 9 ++ [.l [],.i 3])
 else bif !(tU (sub p 0 9) (sub r 0 2)) then some (1,sub (dpS p) 0 9 ++ [.l [],.i 4])
 else nd (leI ((gd p 5).rows.length:Int) 1000000000) (bif (gd (gV p q r) 2).int != 0 then nd (em (iY N p q r) (iY N p q r)) (nd (em (iY N p q r) (iY N p q r)) (some (1,sub (dpS p) 0 9 ++ [.l [],.i (eT [(gd (gV p q r) 2)])])))
 else nd (leI ((gd (gV p q r) 0).rows.length:Int) 100000000&&(leI ((gd (dpS p) 6).rows.length:Int) 100000000&&leI ((gd (gV p q r) 1).rows.length:Int) 100000000)) (nd (leI ((gd p 3).rows.length:Int) 1000000000) (some (1,sub (sub (lY p q r) 0 9) 0 5 ++ [gd (dpS p) 5,gd (sub (lY p q r) 0 9) 6,gd (sub (lY p q r) 0 9) 7,gd (sub (lY p q r) 0 9) 8,pk (gd p 3) (sub r 0 2) true,.i 0]))))))
theorem KO(N:Nat)(p q r:b8):bf f8 Av N Bh Tryz.f38 (.tup [.agg d9,.c (.d (.sl 108)),.c (.d si)]) [⟨ag aR,p⟩,⟨ri,q⟩,⟨ag aI,r⟩]=some (bo,gJ N p q r):=by kernel_rfl
@[irreducible] def kj(p:b8)(q:D)(r:b8):b8:=sub (gJ (0) p [q] r).pay 0 11
theorem wH(p q r:b8)(h:(true)=true):GG (fun c l=>c=1/\l=sub l 0 11/\(SmS 5000 l)) (gJ (0) p q r):=by
 unfold gJ;refine bt (fun O=>bc ⟨rfl,ar _,?_⟩) (fun O=>bt (fun c2=>bc ⟨rfl,ar _,?_⟩) (fun c2=>bt (fun c3=>bc ⟨rfl,ar _,?_⟩) (fun c3=>gnd ?_ (bt (fun c4=>bc ⟨rfl,ar _,?_⟩) (fun c4=>gnd ?_ (bt (fun c5=>bc ⟨rfl,ar _,?_⟩) (fun c5=>bt (fun c6=>bc ⟨rfl,ar _,?_⟩) (fun c6=>bt (fun Y=>bc ⟨rfl,ar _,?_⟩) (fun Y=>gnd ?_ (bt (fun W=>gnd ?_ (gnd ?_ (bc ⟨rfl,ar _,?_⟩))) (fun W=>gnd ?_ (gnd ?_ (bc ⟨rfl,ar _,?_⟩)))))))))))))
 all_goals first
  | exact NJ _ _ _ _
  | skip
 all_goals
  have hsh:aW (sub p 0 9)=true:=by simpa using O
  have y:SmS 60 (sub p 0 9):=AX hsh;have M:SmS 5000 (dpS p):=AG (mF y) (by decide);have a0:(gd (dpS p) 6).rows.length<=60:=(mF y).2.2.2.2.2.1;have p3:(gd p 3).rows.length<=60:=y.2.2.1;have p4:(gd p 4).rows.length<=60:=y.2.2.2.1;have p5:(gd p 5).rows.length<=60:=y.2.2.2.2.1;have p6:(gd p 6).rows.length<=60:=y.2.2.2.2.2.1;have p7:(gd p 7).rows.length<=60:=y.2.2.2.2.2.2.1;have J:=fun l h n a m=>EM l h n a m
  first
  | exact M
  | exact gr hsh
  | exact bi (by omega)
  | exact bn _
  | (refine dp (bi ?_) (dp (bi ?_) (bi ?_));(· have:=(J (gd p 4) (aF (gd p 5)) (gd q 0) (sub r 0 2) (.i 1)).1;show ((gd (ed (gd p 4) (aF (gd p 5)) (gd q 0) (sub r 0 2) (.i 1)) 0).rows.length:Int)<=_;omega);(· omega);(· have:=(J (gd p 4) (aF (gd p 5)) (gd q 0) (sub r 0 2) (.i 1)).2;show ((gd (ed (gd p 4) (aF (gd p 5)) (gd q 0) (sub r 0 2) (.i 1)) 1).rows.length:Int)<=_;omega))
  | (obtain⟨Z,U,V,d4,d5,d6,d7,d8⟩:=M;have a1:=(J (gd p 4) (aF (gd p 5)) (gd q 0) (sub r 0 2) (.i 1)).1;have a2:=(J (gd p 4) (aF (gd p 5)) (gd q 0) (sub r 0 2) (.i 1)).2;obtain⟨w1,w2⟩:=vR (gd (ed (gd p 4) (aF (gd p 5)) (gd q 0) (sub r 0 2) (.i 1)) 0) (gd (dpS p) 6) (gd (ed (gd p 4) (aF (gd p 5)) (gd q 0) (sub r 0 2) (.i 1)) 1) (gd (ed (gd p 4) (aF (gd p 5)) (gd q 0) (sub r 0 2) (.i 1)) 1).rows.length;refine⟨Z,U,V,m8 w1 (by omega),d5,m8 w2 (by omega),d7,d8⟩)
theorem Of{p:b8}{q:D}{r:b8}(h:(true)=true):SmS 5000 (kj p q r):=by unfold kj;exact (cH (wH p [q] r h)).2
theorem NR(N:Nat)(p q r:b8):gJ N p q r=gJ N p [gd q 0] r:=by unfold gJ;simp only[bn];rfl
def Bg:Ent:=(38,e3 (ag aR) ri (ag aI) fun p q r=>(⟨.tup [.agg d9,.c (.d (.sl 108)),.c (.d si)],kj p (gd q 0) r⟩,true))
theorem Kt:ay f8 Bg:=gW fun p q r h=>au (N:=0) (ks:=Bh) (al (fC ⟨jR,fC ⟨kD,fC ⟨eA,fC ⟨fM,fC ⟨kY,fC ⟨vq,fC ⟨Fv,fC ⟨wo,fC ⟨vH,fC ⟨Fn,fC ⟨qB,fC ⟨yM,fN⟩⟩⟩⟩⟩⟩⟩⟩⟩⟩⟩⟩)) Tryz.func38 fun hw=>by rw[KO];exact congrArg (fun x=>some (bo,x)) (((NR _ p q r).trans (cH (wH p [gd q 0] r h)).1).trans (by unfold kj;exact rfl))
abbrev pb:=find [kU,ou,gw,nq,sB,CR,Mt,up]
abbrev pc:=[0,1,2,3,6,7,8,9,10,11,19,26,33,44,49]
def tq(N:Nat)(p q r:b8):b8->Out:=bb f8 pb N pc Tryz.f40 (.tup [.agg d9,.c (.d si)]) [⟨ag aR,p⟩,⟨ri,q⟩,⟨rb,r⟩] 0
theorem HY(N:Nat)(p q r:b8)(y:b8):(tq N p q r) (sub y 0 46) =
 bif ltI (gd y 18).int ((gd y 42).rows.length:Int) then nd (ah (gd y 18).int (gd y 42).rows.length) (bif (gd ((gd y 42).rows.getD (gd y 18).int.toNat []) 0).int != (gd y 9).int then nd (bl ((gd y 17).rows ++ [sub ((gd y 42).rows.getD (gd y 18).int.toNat []) 0 2])&&true) (nx (sub y 0 17++([.l ((gd y 17).rows ++ [sub ((gd y 42).rows.getD (gd y 18).int.toNat []) 0 2]),.i (w64 ((gd y 18).int+1))]++sub y 19 27)))
 else bif (gd y 10).bool then nx (sub y 0 18++([.i (w64 ((gd y 18).int+1))]++(sub y 19 21++([gd (gI (gd y 22) (gd ((gd y 42).rows.getD (gd y 18).int.toNat []) 1)) 0]++sub y 41 5))))
 else nx (sub y 0 18++([.i (w64 ((gd y 18).int+1))]++sub y 19 27)))
 else ex 0 (sub y 0 46):=by kernel_rfl
def tu(N:Nat)(p q r:b8)(y:Out):Out:=
 nd (leI ((gd y.pay 23).rows.length:Int) 1000000000) (nd (leI ((gd y.pay 25).rows.length:Int) 1000000) (nd (leI ((gd y.pay 26).rows.length:Int) 1000000000) (some (1,sub y.pay 37 4 ++ [po (gd y.pay 23) (gd y.pay 9).int false,gd y.pay 17,gd (ni (gd y.pay 25) (gd y.pay 9)) 0,bQ (gd y.pay 26) (gd y.pay 9),gd y.pay 45,.i 0]))))
def gq(N:Nat)(p q r:b8):Out:=
 bif !(aW (sub p 0 9)) then some (1,[.i 0,.l [],.l [],.l [],.l [],.l [],.l [],.l [],.i 0,.i 1])
 else bif !(inB (gd q 0).int 1 60) then some (1,[.i 0,.l [],.l [],.l [],.l [],.l [],.l [],.l [],.i 0,.i 1])
 else nd (dY (sub p 0 9)) (bif aC (gd p 7) (gd q 0).int then some (1,sub (dpS p) 0 9 ++ [.i 2])
 else (let y:=aX (tq N p q r) N (sub p 0 9++([gd q 0,gd r 0,.i 0,.i 0,.i 0,.b (!(inB (gd q 0).int 1 60)),.i 0,.b (aC (gd p 7) (gd q 0).int),.l [],.i 0]++(sub p 0 9++([.i 0,.l [],.l [],.l [],.l [],.l [],.l [],.l [],.i 0]++sub (dpS p) 0 9))));
  nd y.isSome (nd (y.code==2) (tu N p q r y))))
theorem Fh(N:Nat)(p q r:b8):bf f8 pb N pc Tryz.f40 (.tup [.agg d9,.c (.d si)]) [⟨ag aR,p⟩,⟨ri,q⟩,⟨rb,r⟩]=some (bo,gq N p q r):=by kernel_rfl
@[irreducible] def cu(p:b8)(q:D)(r:D):b8:=sub (gq (62) p [q] [r]).pay 0 10
theorem rQ(p q r:b8)(h:(true)=true):GG (fun c l=>c=1/\l=sub l 0 10/\(SmS 5000 l)) (gq (62) p q r):=by
 unfold gq;refine bt (fun y=>bc ⟨rfl,ar _,?_⟩) (fun y=>bt (fun c2=>bc ⟨rfl,ar _,?_⟩) (fun c2=>gnd ?_ (bt (fun c3=>bc ⟨rfl,ar _,?_⟩) (fun c3=>?_))))
 all_goals first
  | exact NJ _ _ _ _
  | skip
 all_goals
  have hsh:aW (sub p 0 9)=true:=by simpa using y
  have O:SmS 60 (sub p 0 9):=AX hsh;have hd:SmS 5000 (dpS p):=AG (mF O) (by decide);have b4:(gd (dpS p) 6).rows.length<=60:=(mF O).2.2.2.2.2.1;have p3:(gd p 3).rows.length<=60:=O.2.2.1;have p4:(gd p 4).rows.length<=60:=O.2.2.2.1;have p5:(gd p 5).rows.length<=60:=O.2.2.2.2.1;have p6:(gd p 6).rows.length<=60:=O.2.2.2.2.2.1;have p7:(gd p 7).rows.length<=60:=O.2.2.2.2.2.2.1
  first
  | exact hd
  | exact gr hsh
  | skip
 obtain⟨d1,d2,d3,d4,d5,d6,d7,d8⟩:=hd;have b2:(gd (dpS p) 5).rows.length<=60:=(mF O).2.2.2.2.1;refine git (K:=tu 62 p q r) (c:=2) (fun l=>(gd l 23=gd p 4/\gd l 25=gd p 6/\gd l 26=gd p 7)/\(gd l 37=gd (dpS p) 0/\gd l 38=gd (dpS p) 1/\gd l 39=gd (dpS p) 2)/\(gd l 40).rows.length<=5000/\(gd l 17).rows.length<=60/\∀x∈(gd l 17).rows,(gd x 1).rows.length<=5000) ?_ ?_
 ·refine ir (I:=fun k s=>s=sub s 0 46/\(gd s 18).int=(k:Int)/\gd s 42=gd (dpS p) 5/\k<=60/\(gd s 23=gd p 4/\gd s 25=gd p 6/\gd s 26=gd p 7)/\(gd s 37=gd (dpS p) 0/\gd s 38=gd (dpS p) 1/\gd s 39=gd (dpS p) 2)/\(gd s 40).rows.length<=5000/\(gd s 17).rows.length<=k/\∀x∈(gd s 17).rows,(gd x 1).rows.length<=5000) 60 (fun k s hs=>?_) 62 0 _ ⟨ar _,rfl,rfl,n5 _,⟨rfl,rfl,rfl⟩,⟨rfl,rfl,rfl⟩,d3,i8 _,fun x W=>by cases W⟩ (by decide) (n5 _);obtain⟨e,hi,U,hk,Z,hB,a1,a0,W⟩:=hs;have hw:w64 ((gd s 18).int+1)=((k+1:Nat):Int):=by rw[bD (by omega) (by omega)];omega
  have J:ltI (gd s 18).int ((gd s 42).rows.length:Int)=true->k<(gd s 42).rows.length:=fun J=>by have J:(gd s 18).int<((gd s 42).rows.length:Int):=i7 J;omega
  have V:ltI (gd s 18).int ((gd s 42).rows.length:Int)=true->k<60:=fun hq=>by have:=J hq;rw[U] at this;omega
  have a4:ltI (gd s 18).int ((gd s 42).rows.length:Int)=true->∀x∈(gd s 17).rows ++ [sub ((gd s 42).rows.getD (gd s 18).int.toNat []) 0 2],(gd x 1).rows.length<=5000:=fun hq x M=>by
   have hl:=J hq;rcases n3.1 M with M | M
   ·exact W x M
   ·rw[y5.1 M,hi,g8];show (gd ((gd s 42).rows.getD k []) 1).rows.length<=5000;rw[U] at hl ⊢;rw[aZ hl];exact d8 _ (v6 hl)
  have b1:((gd s 17).rows ++ [sub ((gd s 42).rows.getD (gd s 18).int.toNat []) 0 2]).length<=k+1:=by rw[i6,n9];omega
  have a5:∀w:D,(gd (gI (gd s 22) w) 0).rows.length<=5000:=fun w=>m8 (Ps (p:=gd s 22) (q:=w) rfl) (by decide)
  refine grd e (geq (HY _ _ _ _ s) (bt (fun y=>gnd ?_ (bt (fun c2=>gnd ?_ (bc (.inl ⟨rfl,V y,ar _,hw,U,V y,Z,hB,?_,?_,?_⟩))) (fun c2=>bt (fun c3=>bc (.inl ⟨rfl,V y,ar _,hw,U,V y,Z,hB,?_,?_,?_⟩)) (fun c3=>bc (.inl ⟨rfl,V y,ar _,hw,U,V y,Z,hB,?_,?_,?_⟩))))) (fun y=>bc (.inr ⟨by decide,rfl,Z,hB,a1,m8 a0 hk,W⟩))))
  all_goals first
   | exact a1
   | exact W
   | exact a4 y
   | exact a5 _
   | exact b1
   | exact Nat.le_succ_of_le a0
   | (rw[hi];exact bK (J y))
   | exact dQ (by omega)
 ·rintro l ⟨⟨a2,Y,a3⟩,⟨b3,a7,a6⟩,a8,b0,lx⟩;refine gnd ?_ (gnd ?_ (gnd ?_ (bc ⟨rfl,ar _,?_⟩)))
  all_goals try simp only[Out.pay,z6]
  all_goals first
   | (rw[a2];exact bi (by omega))
   | (rw[Y];exact bi (by omega))
   | (rw[a3];exact bi (by omega))
   | skip
  ·refine⟨?_,?_,a8,m8 (zH _ _ _) ?_,m8 b0 (by decide),?_,m8 (jq _ _) ?_,lx⟩
   ·show (gd l 38).rows.length<=5000;rw[a7];exact d1
   ·show (gd l 39).rows.length<=5000;rw[a6];exact d2
   ·show (gd l 23).rows.length<=5000;rw[a2];omega
   ·show (gd (ni (gd l 25) (gd l 9)) 0).rows.length<=5000;have:=XR (p:=gd l 25) (q:=gd l 9) (by rw[Y];exact bi (by omega));rw[Y] at this ⊢;omega
   ·show (gd l 26).rows.length+1<=5000;rw[a3];omega
theorem uJ{p:b8}{q:D}{r:D}(h:(true)=true):SmS 5000 (cu p q r):=by unfold cu;exact (cH (rQ p [q] [r] h)).2
theorem Hr(N:Nat)(p q r:b8):gq N p q r=gq N p [gd q 0] [gd r 0]:=by kernel_rfl
def wK:Ent:=(40,e3 (ag aR) ri rb fun p q r=>(⟨.tup [.agg d9,.c (.d si)],cu p (gd q 0) (gd r 0)⟩,true))
theorem Gm:ay f8 wK:=gW fun p q r h=>au (N:=62) (ks:=pc) (al (fC ⟨jR,fC ⟨kD,fC ⟨fM,fC ⟨kY,fC ⟨wF,fC ⟨DK,fC ⟨VJ,fC ⟨sA,fN⟩⟩⟩⟩⟩⟩⟩⟩)) Tryz.func40 fun hw=>by rw[Fh];exact congrArg (fun x=>some (bo,x)) (((Hr _ p q r).trans (cH (rQ p [gd q 0] [gd r 0] h)).1).trans (by unfold cu;exact rfl))
abbrev AP:=find [CP]
abbrev An:=[0,1,3,4,5,6,7]
def jY(N:Nat)(p q:b8):Out:=
 some (1,sub (sub (jo (gd p 0) (sub q 0 2) (.b false)) 0 2) 0 2)
theorem Lc(N:Nat)(p q:b8):bf f8 AP N An Tryz.f148 (.tup [.c (.d (.sl 41)),.c (.d .bool)]) [⟨sd (.sl 41),p⟩,⟨ag aI,q⟩]=some (bo,jY N p q):=by kernel_rfl
@[irreducible] def cT(p:D)(q:b8):b8:=sub (jY (0) [p] q).pay 0 2
theorem wJ(p q:b8)(h:(true)=true):GG (fun c l=>c=1/\l=sub l 0 2/\((gd l 0).rows.length<=1000)) (jY (0) p q):=by exact bc ⟨rfl,ar _,Mo _ _ _⟩
theorem xy{p:D}{q:b8}(h:(true)=true):(gd (cT p q) 0).rows.length<=1000:=by unfold cT;exact (cH (wJ [p] q h)).2
theorem LU(N:Nat)(p q:b8):jY N p q=jY N [gd p 0] q:=by kernel_rfl
def sD:Ent:=(148,e2 (sd (.sl 41)) (ag aI) fun p q=>(⟨.tup [.c (.d (.sl 41)),.c (.d .bool)],cT (gd p 0) q⟩,true))
theorem wA:ay f8 sD:=bm fun p q h=>au (N:=0) (ks:=An) (al (fC ⟨FI,fN⟩)) Tryz.func148 fun hw=>by rw[Lc];exact congrArg (fun x=>some (bo,x)) (((LU _ p q).trans (cH (wJ [gd p 0] q h)).1).trans (by unfold cT;exact rfl))
abbrev AI:=find [rq,jj,gw,nZ,gN,sD]
abbrev Ap:=[0,1,2,3,5,6,7,8,9,10,11,17,34,40,50]
def PP(p q r:b8):b8:=du (sub p 0 9) (aV (sub p 0 9) [gd q 0] (sub r 0 2))
def iN(N:Nat)(p q r:b8):Out:=
 bif (aV (sub p 0 9) [gd q 0] (sub r 0 2)) != 0 then nd (dY (sub p 0 9)||(aV (sub p 0 9) [gd q 0] (sub r 0 2))==1) (some (1,sub (sub (PP p q r) 0 9) 0 9 ++ [.i (aV (sub p 0 9) [gd q 0] (sub r 0 2))]))
 else nd (dY (sub p 0 9)) (bif (gd q 0).int==(gd p 8).int then bif !(lD (gd p 2) (sub r 0 2)) then some (1,sub (dpS p) 0 9 ++ [.i 0])
 else bif !(aT (gd p 2) (sub r 0 2)) then some (1,sub (dpS p) 0 9 ++ [.i 4])
 else bif !(gd (cT (gd p 2) (sub r 0 2)) 1).bool then some (1,sub (dpS p) 0 9 ++ [.i 6])
 else some (1,[gd (dpS p) 0,gd (dpS p) 1,gd (cT (gd p 2) (sub r 0 2)) 0]++(sub (dpS p) 3 5 ++ [gd q 0,.i 0]))
 else bif !(aT (gd p 2) (sub r 0 2)) then some (1,sub (dpS p) 0 9 ++ [.i 4])
 else bif !(gd (cT (gd p 2) (sub r 0 2)) 1).bool then some (1,sub (dpS p) 0 9 ++ [.i 6])
 else some (1,[gd (dpS p) 0,gd (dpS p) 1,gd (cT (gd p 2) (sub r 0 2)) 0]++(sub (dpS p) 3 5 ++ [gd q 0,.i 0])))
theorem Kl(N:Nat)(p q r:b8):bf f8 AI N Ap Tryz.f42 (.tup [.agg d9,.c (.d si)]) [⟨ag aR,p⟩,⟨ri,q⟩,⟨ag aI,r⟩]=some (bo,iN N p q r):=by kernel_rfl
theorem Tu(p:b8)(q:D)(r:b8):SmS 5000 (du (sub p 0 9) (aV (sub p 0 9) [q] (sub r 0 2))):=by
 generalize y:aV (sub p 0 9) [q] (sub r 0 2)=c;unfold du;cases h1:c==1 with
 | true=>exact NJ _ _ _ []
 | false =>
  have hsh:aW (sub p 0 9)=true:=by
   cases J:aW (sub p 0 9) with
   | true=>rfl
   | false =>unfold aV at y;rw[show sub (sub p 0 9) 0 9=sub p 0 9 from rfl,J] at y;have:(1:Int)=c:=y;rw[<- this] at h1;cases h1
  exact AG (mF (AX hsh)) (by decide)
@[irreducible] def km(p:b8)(q:D)(r:b8):b8:=sub (iN (0) p [q] r).pay 0 10
theorem wD(p q r:b8)(h:(true)=true):GG (fun c l=>c=1/\l=sub l 0 10/\(SmS 5000 l)) (iN (0) p q r):=by
 unfold iN;refine bt (fun V=>gnd ?_ (bc ⟨rfl,ar _,?_⟩)) (fun V=>gnd ?_ (bt (fun c2=>bt (fun c3=>bc ⟨rfl,ar _,?_⟩) (fun c3=>bt (fun c4=>bc ⟨rfl,ar _,?_⟩) (fun c4=>bt (fun c5=>bc ⟨rfl,ar _,?_⟩) (fun c5=>bc ⟨rfl,ar _,?_⟩)))) (fun c2=>bt (fun c6=>bc ⟨rfl,ar _,?_⟩) (fun c6=>bt (fun c7=>bc ⟨rfl,ar _,?_⟩) (fun c7=>bc ⟨rfl,ar _,?_⟩)))))
 ·exact EH p [gd q 0] r
 ·exact Tu p (gd q 0) r
 all_goals
  obtain⟨hsh,_⟩:=Mz V;have y:SmS 60 (sub p 0 9):=AX hsh;have hd:SmS 5000 (dpS p):=AG (mF y) (by decide);have p3:(gd p 3).rows.length<=60:=y.2.2.1;have p4:(gd p 4).rows.length<=60:=y.2.2.2.1;have p5:(gd p 5).rows.length<=60:=y.2.2.2.2.1;have hl:(gd (cT (gd p 2) (sub r 0 2)) 0).rows.length<=5000:=m8 (xy (p:=gd p 2) (q:=sub r 0 2) rfl) (by decide);obtain⟨M,d2,J,Z,W,U,O,Y⟩:=hd
  first
  | exact gr hsh
  | exact⟨M,d2,J,Z,W,U,O,Y⟩
  | exact⟨M,hl,J,Z,W,U,O,Y⟩
theorem LV{p:b8}{q:D}{r:b8}(h:(true)=true):SmS 5000 (km p q r):=by unfold km;exact (cH (wD p [q] r h)).2
theorem Oa(N:Nat)(p q r:b8):iN N p q r=iN N p [gd q 0] r:=by kernel_rfl
def AD:Ent:=(42,e3 (ag aR) ri (ag aI) fun p q r=>(⟨.tup [.agg d9,.c (.d si)],km p (gd q 0) r⟩,true))
theorem KC:ay f8 AD:=gW fun p q r h=>au (N:=0) (ks:=Ap) (al (fC ⟨pE,fC ⟨jO,fC ⟨fM,fC ⟨nJ,fC ⟨gn,fC ⟨wA,fN⟩⟩⟩⟩⟩⟩)) Tryz.func42 fun hw=>by rw[Kl];exact congrArg (fun x=>some (bo,x)) (((Oa _ p q r).trans (cH (wD p [gd q 0] r h)).1).trans (by unfold km;exact rfl))
abbrev uG:=find [rq,kH,xa,jj,gw,gN,nZ,sM,Gs,zL]
abbrev tF:=[0,1,2,3,4,6,8,9,10,11,12,13,14,15,33,35,42,54,60,95,3000002]
def mm(N:Nat)(p q r s:b8)(y:Out):Out:=
 bif (gd y.pay 18).bool then bif 1 != 0 then nd (dY (sub y.pay 19 9)||1==1) (some (1,sub (sub (du (sub y.pay 19 9) 1) 0 9) 0 9 ++ [.i 1]))
  else nd (dY (sub y.pay 19 9)) (bif (gd y.pay 9).int==(gd y.pay 27).int then bif aT (gd y.pay 20) (sub y.pay 28 2) then some (1,sub (ddS (sub y.pay 19 9)) 0 9 ++ [.i 0])
  else bif (gd y.pay 9).int==(gd y.pay 27).int then some (1,sub (ddS (sub y.pay 19 9)) 0 9 ++ [.i 6])
  else bif lD (gd y.pay 20) (sub y.pay 28 2) then some (1,sub (ddS (sub y.pay 19 9)) 0 9 ++ [.i 4])
  else bif !(gd (sub (jo (gd y.pay 20) (sub y.pay 28 2) (.b true)) 0 2) 1).bool then some (1,sub (ddS (sub y.pay 19 9)) 0 8 ++ [gd y.pay 9,.i 6])
  else bif !(gd (sub (mD (gd y.pay 22) (gd y.pay 12)) 0 2) 1).bool then some (1,sub (ddS (sub y.pay 19 9)) 0 8 ++ [gd y.pay 9,.i 6])
  else nd (leI ((gd y.pay 24).rows.length:Int) 1000000000) (bif ltI 60 (w64 (((gd (sub (mD (gd y.pay 22) (gd y.pay 12)) 0 2) 0).rows.length:Int)+(eI (gd y.pay 22) (gd y.pay 24) (gd y.pay 24).rows.length))) then some (1,sub (ddS (sub y.pay 19 9)) 0 8 ++ [gd y.pay 9,.i 6])
  else some (1,[gd (ddS (sub y.pay 19 9)) 0,gd (sub (jo (gd y.pay 20) (sub y.pay 28 2) (.b true)) 0 2) 0,gd (ddS (sub y.pay 19 9)) 2,gd (sub (mD (gd y.pay 22) (gd y.pay 12)) 0 2) 0]++(sub (ddS (sub y.pay 19 9)) 4 4 ++ [gd y.pay 9,.i 0])))
  else bif (gd y.pay 9).int==(gd y.pay 27).int then some (1,sub (ddS (sub y.pay 19 9)) 0 9 ++ [.i 6])
  else bif lD (gd y.pay 20) (sub y.pay 28 2) then some (1,sub (ddS (sub y.pay 19 9)) 0 9 ++ [.i 4])
  else bif !(gd (sub (jo (gd y.pay 20) (sub y.pay 28 2) (.b true)) 0 2) 1).bool then some (1,sub (ddS (sub y.pay 19 9)) 0 8 ++ [gd y.pay 9,.i 6])
  else bif !(gd (sub (mD (gd y.pay 22) (gd y.pay 12)) 0 2) 1).bool then some (1,sub (ddS (sub y.pay 19 9)) 0 8 ++ [gd y.pay 9,.i 6])
  else nd (leI ((gd y.pay 24).rows.length:Int) 1000000000) (bif ltI 60 (w64 (((gd (sub (mD (gd y.pay 22) (gd y.pay 12)) 0 2) 0).rows.length:Int)+(eI (gd y.pay 22) (gd y.pay 24) (gd y.pay 24).rows.length))) then some (1,sub (ddS (sub y.pay 19 9)) 0 8 ++ [gd y.pay 9,.i 6])
  else some (1,[gd (ddS (sub y.pay 19 9)) 0,gd (sub (jo (gd y.pay 20) (sub y.pay 28 2) (.b true)) 0 2) 0,gd (ddS (sub y.pay 19 9)) 2,gd (sub (mD (gd y.pay 22) (gd y.pay 12)) 0 2) 0]++(sub (ddS (sub y.pay 19 9)) 4 4 ++ [gd y.pay 9,.i 0]))))
  else bif (gd y.pay 17).int != 0 then nd (dY (sub y.pay 19 9)||(gd y.pay 17).int==1) (some (1,sub (sub (du (sub y.pay 19 9) (gd y.pay 17).int) 0 9) 0 9 ++ [gd y.pay 17]))
  else nd (dY (sub y.pay 19 9)) (bif (gd y.pay 9).int==(gd y.pay 27).int then bif aT (gd y.pay 20) (sub y.pay 28 2) then some (1,sub (ddS (sub y.pay 19 9)) 0 9 ++ [.i 0])
  else bif (gd y.pay 9).int==(gd y.pay 27).int then some (1,sub (ddS (sub y.pay 19 9)) 0 9 ++ [.i 6])
  else bif lD (gd y.pay 20) (sub y.pay 28 2) then some (1,sub (ddS (sub y.pay 19 9)) 0 9 ++ [.i 4])
  else bif !(gd (sub (jo (gd y.pay 20) (sub y.pay 28 2) (.b true)) 0 2) 1).bool then some (1,sub (ddS (sub y.pay 19 9)) 0 8 ++ [gd y.pay 9,.i 6])
  else bif !(gd (sub (mD (gd y.pay 22) (gd y.pay 12)) 0 2) 1).bool then some (1,sub (ddS (sub y.pay 19 9)) 0 8 ++ [gd y.pay 9,.i 6])
  else nd (leI ((gd y.pay 24).rows.length:Int) 1000000000) (bif ltI 60 (w64 (((gd (sub (mD (gd y.pay 22) (gd y.pay 12)) 0 2) 0).rows.length:Int)+(eI (gd y.pay 22) (gd y.pay 24) (gd y.pay 24).rows.length))) then some (1,sub (ddS (sub y.pay 19 9)) 0 8 ++ [gd y.pay 9,.i 6])
  else some (1,[gd (ddS (sub y.pay 19 9)) 0,gd (sub (jo (gd y.pay 20) (sub y.pay 28 2) (.b true)) 0 2) 0,gd (ddS (sub y.pay 19 9)) 2,gd (sub (mD (gd y.pay 22) (gd y.pay 12)) 0 2) 0]++(sub (ddS (sub y.pay 19 9)) 4 4 ++ [gd y.pay 9,.i 0])))
  else bif (gd y.pay 9).int==(gd y.pay 27).int then some (1,sub (ddS (sub y.pay 19 9)) 0 9 ++ [.i 6])
  else bif lD (gd y.pay 20) (sub y.pay 28 2) then some (1,sub (ddS (sub y.pay 19 9)) 0 9 ++ [.i 4])
  else bif !(gd (sub (jo (gd y.pay 20) (sub y.pay 28 2) (.b true)) 0 2) 1).bool then some (1,sub (ddS (sub y.pay 19 9)) 0 8 ++ [gd y.pay 9,.i 6])
  else bif !(gd (sub (mD (gd y.pay 22) (gd y.pay 12)) 0 2) 1).bool then some (1,sub (ddS (sub y.pay 19 9)) 0 8 ++ [gd y.pay 9,.i 6])
  else nd (leI ((gd y.pay 24).rows.length:Int) 1000000000) (bif ltI 60 (w64 (((gd (sub (mD (gd y.pay 22) (gd y.pay 12)) 0 2) 0).rows.length:Int)+(eI (gd y.pay 22) (gd y.pay 24) (gd y.pay 24).rows.length))) then some (1,sub (ddS (sub y.pay 19 9)) 0 8 ++ [gd y.pay 9,.i 6])
  else some (1,[gd (ddS (sub y.pay 19 9)) 0,gd (sub (jo (gd y.pay 20) (sub y.pay 28 2) (.b true)) 0 2) 0,gd (ddS (sub y.pay 19 9)) 2,gd (sub (mD (gd y.pay 22) (gd y.pay 12)) 0 2) 0]++(sub (ddS (sub y.pay 19 9)) 4 4 ++ [gd y.pay 9,.i 0]))))
def fP(N:Nat)(p q r s:b8):Out:=
 (let y:Out:=(bif (aV (sub p 0 9) [gd q 0] (sub r 0 2)) != 1 then bif !(aN (gd s 0)) then nx (sub p 0 9++([gd q 0,gd r 0,gd r 1,gd s 0,.i 0,.i 0,.i 0,.i 0,.i (aV (sub p 0 9) [gd q 0] (sub r 0 2)),.b true]++(sub p 0 9 ++ [gd r 0,gd r 1,.i 0,.l [],.l [],.l [],.l [],.l [],.l [],.l [],.i 0])))
  else nd (leI ((gd s 0).rows.length:Int) 1000000000) (nx (sub p 0 9++([gd q 0,gd r 0,gd r 1,gd s 0,.i 0,.i 0,.i 0,.i 0,.i (aV (sub p 0 9) [gd q 0] (sub r 0 2)),.b (ltI 0 ((pk (gd s 0) (sub r 0 2) false).rows.length:Int))]++(sub p 0 9 ++ [gd r 0,gd r 1,.i 0,.l [],.l [],.l [],.l [],.l [],.l [],.l [],.i 0]))))
  else nx (sub p 0 9++([gd q 0,gd r 0,gd r 1,gd s 0,.i 0,.i 0,.i 0,.i 0,.i (aV (sub p 0 9) [gd q 0] (sub r 0 2)),.b false]++(sub p 0 9 ++ [gd r 0,gd r 1,.i 0,.l [],.l [],.l [],.l [],.l [],.l [],.l [],.i 0]))));
  nd y.isSome (mm N p q r s y))
theorem CX(N:Nat)(p q r s:b8):bf f8 uG N tF Tryz.f31 (.tup [.agg d9,.c (.d si)]) [⟨ag aR,p⟩,⟨ri,q⟩,⟨ag aI,r⟩,⟨sd (.sl 108),s⟩]=some (bo,fP N p q r s):=by kernel_rfl
@[irreducible] def gX(p:b8)(q:D)(r:b8)(s:D):b8:=sub (fP (0) p [q] r [s]).pay 0 10
theorem qt(p q r s:b8)(h:(Hx (gd s 0))=true):GG (fun c l=>c=1/\l=sub l 0 10/\(SmS 5000 l)) (fP (0) p q r s):=by
 have h:((gd s 0).rows.length:Int)<=1000:=i7 h;unfold fP;have key:∀l,sub l 19 9=sub p 0 9/\gd l 12=gd s 0/\sub l 28 2=sub r 0 2/\gd l 17=.i (aV (sub p 0 9) [gd q 0] (sub r 0 2))->GG (fun c l=>c=1/\l=sub l 0 10/\SmS 5000 l) (mm 0 p q r s (some (0,l))):=by
  rintro l ⟨y,l2,l3,M⟩;have e6:gd l 20=gd p 1:=congrArg (fun x=>gd x 1) y;have b1:gd l 22=gd p 3:=congrArg (fun x=>gd x 3) y;have a2:gd l 24=gd p 5:=congrArg (fun x=>gd x 5) y;refine bt (fun O=>bt (fun J=>gnd ?_ (bc ⟨rfl,ar _,?_⟩)) (fun J=>gnd ?_ (bt (fun c3=>bt (fun c4=>bc ⟨rfl,ar _,?_⟩) (fun c4=>bt (fun c5=>bc ⟨rfl,ar _,?_⟩) (fun c5=>bt (fun c6=>bc ⟨rfl,ar _,?_⟩) (fun c6=>bt (fun c7=>bc ⟨rfl,ar _,?_⟩) (fun c7=>bt (fun c8=>bc ⟨rfl,ar _,?_⟩) (fun c8=>gnd ?_ (bt (fun c9=>bc ⟨rfl,ar _,?_⟩) (fun c9=>bc ⟨rfl,ar _,?_⟩)))))))) (fun c3=>bt (fun a3=>bc ⟨rfl,ar _,?_⟩) (fun a3=>bt (fun b2=>bc ⟨rfl,ar _,?_⟩) (fun b2=>bt (fun V=>bc ⟨rfl,ar _,?_⟩) (fun V=>bt (fun b4=>bc ⟨rfl,ar _,?_⟩) (fun b4=>gnd ?_ (bt (fun a1=>bc ⟨rfl,ar _,?_⟩) (fun a1=>bc ⟨rfl,ar _,?_⟩)))))))))) (fun O=>bt (fun b3=>gnd ?_ (bc ⟨rfl,ar _,?_⟩)) (fun b3=>gnd ?_ (bt (fun a8=>bt (fun Z=>bc ⟨rfl,ar _,?_⟩) (fun Z=>bt (fun a6=>bc ⟨rfl,ar _,?_⟩) (fun a6=>bt (fun a4=>bc ⟨rfl,ar _,?_⟩) (fun a4=>bt (fun e0=>bc ⟨rfl,ar _,?_⟩) (fun e0=>bt (fun b6=>bc ⟨rfl,ar _,?_⟩) (fun b6=>gnd ?_ (bt (fun a7=>bc ⟨rfl,ar _,?_⟩) (fun a7=>bc ⟨rfl,ar _,?_⟩)))))))) (fun a8=>bt (fun b5=>bc ⟨rfl,ar _,?_⟩) (fun b5=>bt (fun c0=>bc ⟨rfl,ar _,?_⟩) (fun c0=>bt (fun a0=>bc ⟨rfl,ar _,?_⟩) (fun a0=>bt (fun b0=>bc ⟨rfl,ar _,?_⟩) (fun b0=>gnd ?_ (bt (fun a5=>bc ⟨rfl,ar _,?_⟩) (fun a5=>bc ⟨rfl,ar _,?_⟩))))))))))
  all_goals try exact absurd J (by decide)
  all_goals try exact J8 _
  all_goals try exact NJ 5000 (.i 0) (.i 0) [.i 1]
  all_goals try
   (show (dY (sub l 19 9)||(gd l 17).int==1)=true
    rw[y,M];exact EH p [gd q 0] r)
  all_goals try
   (show SmS 5000 (du (sub l 19 9) (gd l 17).int)
    rw[y,M];exact Tu p (gd q 0) r)
  all_goals
   have hz:(aV (sub p 0 9) [gd q 0] (sub r 0 2) != 0)=false:=by have hh:((gd l 17).int != 0)=false:= ‹((gd (Out.pay (some (0,l))) 17).int != 0)=false›;rw[M] at hh;exact hh
   obtain⟨hsh,_⟩:=Mz hz;have U:SmS 60 (sub p 0 9):=AX hsh;have hd:SmS 5000 (ddS (sub p 0 9)):=AG (mF U) (by decide);have p3:(gd p 3).rows.length<=60:=U.2.2.1;have p5:(gd p 5).rows.length<=60:=U.2.2.2.2.1;have hj:(gd (sub (mD (gd l 22) (gd l 12)) 0 2) 0).rows.length<=5000:=by rw[b1,l2];exact m8 (aei p3 (by omega)) (by decide)
   have hc:=m8 (Mo (gd l 20) (sub l 28 2) (.b true)) (show 1000<=5000 by decide);rw[<- y] at hd hsh;have Y:=gr hsh;obtain⟨d1,W,d3,d4,d5,d6,d7,d8⟩:=hd
   first
   | exact Y
   | (show leI ((gd l 24).rows.length:Int) 1000000000=true;rw[a2];exact bi (by omega))
   | exact⟨d1,W,d3,d4,d5,d6,d7,d8⟩
   | exact⟨hc,W,hj,d4,d5,d6,d7,d8⟩
 refine gjs (K:=mm 0 p q r s) (afz (fun O=>afz (fun J=>rv (key _ ⟨rfl,rfl,rfl,rfl⟩)) (fun J=>lF ?_ (rv (key _ ⟨rfl,rfl,rfl,rfl⟩)))) (fun O=>rv (key _ ⟨rfl,rfl,rfl,rfl⟩)));exact bi (by omega)
theorem Ef{p:b8}{q:D}{r:b8}{s:D}(h:(Hx s)=true):SmS 5000 (gX p q r s):=by unfold gX;exact (cH (qt p [q] r [s] h)).2
theorem DJ(N:Nat)(p q r s:b8):fP N p q r s=fP N p [gd q 0] r [gd s 0]:=by kernel_rfl
def uk:Ent:=(31,e4 (ag aR) ri (ag aI) (sd (.sl 108)) fun p q r s=>(⟨.tup [.agg d9,.c (.d si)],gX p (gd q 0) r (gd s 0)⟩,Hx (gd s 0)))
theorem CD:ay f8 uk:=Bc fun p q r s h=>au (N:=0) (ks:=tF) (al (fC ⟨pE,fC ⟨jC,fC ⟨AU,fC ⟨jO,fC ⟨fM,fC ⟨gn,fC ⟨nJ,fC ⟨wU,fC ⟨OZ,fC ⟨yk,fN⟩⟩⟩⟩⟩⟩⟩⟩⟩⟩)) Tryz.func31 fun hw=>by rw[CX];exact congrArg (fun x=>some (bo,x)) (((DJ _ p q r s).trans (cH (qt p [gd q 0] r [gd s 0] h)).1).trans (by unfold gX;exact rfl))
abbrev sE:=find [rq,jj,gw,nZ,ig,ml,gN,sD,xa]
abbrev sC:=[0,1,2,3,5,6,7,8,9,10,11,13,14,15,16,17,23,40,46,71,92,3000007,3000012]
def zf(N:Nat)(p q r:b8):b8->Out:=bb f8 sE N sC Tryz.f54 (.tup [.agg d9,.c (.d si)]) [⟨ag aR,p⟩,⟨ri,q⟩,⟨ag aI,r⟩] 0
def uH(N:Nat)(p q r:b8)(x0 x1 x2 x3 x4 x5 x6 x7 x8 x9 c5 Z b0 b5 d1 a0 c8 d3 b4 Y a4 J b2 U d4 b1 y c2 a7 b6 a6 M O a8 a3 x35 c6 b3 c1 V c0 d5 W c4 c7 a2 a1 a5 d2 c9 c3:D):List b8:= [[gd (sub (cP [(gd (y.rows.getD J.int.toNat []) 1),(gd (y.rows.getD J.int.toNat []) 2)] [M,O]) 0 3) 2],[.i 0],[gd (sub (cP [(gd (y.rows.getD J.int.toNat []) 1),(gd (y.rows.getD J.int.toNat []) 2)] [M,O]) 0 3) 2],[gd (sub (cP [(gd (y.rows.getD J.int.toNat []) 1),(gd (y.rows.getD J.int.toNat []) 2)] [M,O]) 0 3) 0,gd (sub (cP [(gd (y.rows.getD J.int.toNat []) 1),(gd (y.rows.getD J.int.toNat []) 2)] [M,O]) 0 3) 1],[gd (sub (cP [(gd (y.rows.getD J.int.toNat []) 1),(gd (y.rows.getD J.int.toNat []) 2)] [M,O]) 0 3) 0,gd (sub (cP [(gd (y.rows.getD J.int.toNat []) 1),(gd (y.rows.getD J.int.toNat []) 2)] [M,O]) 0 3) 1,gd (sub (cP [(gd (y.rows.getD J.int.toNat []) 1),(gd (y.rows.getD J.int.toNat []) 2)] [M,O]) 0 3) 2],[gd (sub (cP [(gd (y.rows.getD J.int.toNat []) 1),(gd (y.rows.getD J.int.toNat []) 2)] [M,O]) 0 3) 0,gd (sub (cP [(gd (y.rows.getD J.int.toNat []) 1),(gd (y.rows.getD J.int.toNat []) 2)] [M,O]) 0 3) 1,gd (sub (cP [(gd (y.rows.getD J.int.toNat []) 1),(gd (y.rows.getD J.int.toNat []) 2)] [M,O]) 0 3) 2],[(gd (y.rows.getD J.int.toNat []) 1),(gd (y.rows.getD J.int.toNat []) 2)],[M,O],[gd (y.rows.getD J.int.toNat []) 0,gd (y.rows.getD J.int.toNat []) 1,gd (y.rows.getD J.int.toNat []) 2,gd (y.rows.getD J.int.toNat []) 3],[.l [[.l y.rows,.i J.int]]],[J],[y],[.i 0],[x0,x1,x2,x3,x4,x5,x6,x7,x8],[x9],[c5,Z],[b0],[b5],[d1],[a0],[c8],[d3],[b4],[Y],[a4],[J],[.b (ltI J.int (y.rows.length:Int))],[b2,U,d4,b1,y,c2,a7,b6,a6],[M,O],[a8,a3,x35,c6,b3,c1,V,c0,d5],[W,c4,c7,a2,a1,a5,d2,c9,c3],[gd (sub (cP [(gd (y.rows.getD J.int.toNat []) 1),(gd (y.rows.getD J.int.toNat []) 2)] [M,O]) 0 3) 0,gd (sub (cP [(gd (y.rows.getD J.int.toNat []) 1),(gd (y.rows.getD J.int.toNat []) 2)] [M,O]) 0 3) 1]]
def gb(y J O M:D):b8:=cP [(gd (J.rows.getD y.int.toNat []) 1),(gd (J.rows.getD y.int.toNat []) 2)] [O,M]
def uo(N:Nat)(p q r:b8)(y:b8)(J:Out):Out:=
 nx (sub J.pay 0 21++([.i (w64 ((gd J.pay 21).int+1))]++sub J.pay 24 29))
theorem Ov(N:Nat)(p q r:b8)(y:b8):(zf N p q r) (sub y 0 51) =
 bif ltI (gd y 21).int ((gd y 26).rows.length:Int) then nd ((ah (gd y 21).int (gd y 26).rows.length)&&true) (ndN 6 (((ah (gd y 21).int (gd y 26).rows.length)&&true)&&(em (uH N p q r (gd y 0) (gd y 1) (gd y 2) (gd y 3) (gd y 4) (gd y 5) (gd y 6) (gd y 7) (gd y 8) (gd y 9) (gd y 10) (gd y 11) (gd y 12) (gd y 13) (gd y 14) (gd y 15) (gd y 16) (gd y 17) (gd y 18) (gd y 19) (gd y 20) (gd y 21) (gd y 22) (gd y 23) (gd y 24) (gd y 25) (gd y 26) (gd y 27) (gd y 28) (gd y 29) (gd y 30) (gd y 31) (gd y 32) (gd y 33) (gd y 34) (gd y 35) (gd y 36) (gd y 37) (gd y 38) (gd y 39) (gd y 40) (gd y 41) (gd y 42) (gd y 43) (gd y 44) (gd y 45) (gd y 46) (gd y 47) (gd y 48) (gd y 49) (gd y 50)) (uH N p q r (gd y 0) (gd y 1) (gd y 2) (gd y 3) (gd y 4) (gd y 5) (gd y 6) (gd y 7) (gd y 8) (gd y 9) (gd y 10) (gd y 11) (gd y 12) (gd y 13) (gd y 14) (gd y 15) (gd y 16) (gd y 17) (gd y 18) (gd y 19) (gd y 20) (gd y 21) (gd y 22) (gd y 23) (gd y 24) (gd y 25) (gd y 26) (gd y 27) (gd y 28) (gd y 29) (gd y 30) (gd y 31) (gd y 32) (gd y 33) (gd y 34) (gd y 35) (gd y 36) (gd y 37) (gd y 38) (gd y 39) (gd y 40) (gd y 41) (gd y 42) (gd y 43) (gd y 44) (gd y 45) (gd y 46) (gd y 47) (gd y 48) (gd y 49) (gd y 50)))) ((let J:Out:=(bif (gd y 20).bool then nx (sub y 0 20++([.b true,gd y 21,.b (ltI (gd y 21).int ((gd y 26).rows.length:Int)),gd (sub (gb (gd y 21) (gd y 26) (gd y 31) (gd y 32)) 0 3) 2]++(sub y 22 29 ++ [gd (sub (gb (gd y 21) (gd y 26) (gd y 31) (gd y 32)) 0 3) 0,gd (sub (gb (gd y 21) (gd y 26) (gd y 31) (gd y 32)) 0 3) 1])))
  else nx (sub y 0 20++([gd (sub (gb (gd y 21) (gd y 26) (gd y 31) (gd y 32)) 0 3) 2,gd y 21,.b (ltI (gd y 21).int ((gd y 26).rows.length:Int)),gd (sub (gb (gd y 21) (gd y 26) (gd y 31) (gd y 32)) 0 3) 2]++(sub y 22 29 ++ [gd (sub (gb (gd y 21) (gd y 26) (gd y 31) (gd y 32)) 0 3) 0,gd (sub (gb (gd y 21) (gd y 26) (gd y 31) (gd y 32)) 0 3) 1]))));
  nd J.isSome (uo N p q r y J))))
 else ex 0 (sub y 0 51):=by kernel_rfl
def Ph(p q r:b8):b8:=du (sub p 0 9) (aV (sub p 0 9) [gd q 0] (sub r 0 2))
def xY(N:Nat)(p q r:b8)(y:Out):Out:=
 bif !(aT (gd y.pay 24) (sub y.pay 31 2)) then some (1,sub y.pay 42 9 ++ [.i 4])
  else bif (gd y.pay 20).bool then some (1,sub y.pay 42 9 ++ [.i 4])
  else bif !(gd (cT (gd y.pay 23) (sub y.pay 31 2)) 1).bool then some (1,sub y.pay 42 9 ++ [.i 6])
  else bif !(gd (cT (gd y.pay 24) (sub y.pay 31 2)) 1).bool then some (1,sub y.pay 42 9 ++ [.i 6])
  else nd (leI ((gd y.pay 25).rows.length:Int) 1000000000) (some (1,[gd y.pay 42,gd (cT (gd y.pay 23) (sub y.pay 31 2)) 0,gd (cT (gd y.pay 24) (sub y.pay 31 2)) 0,pk (gd y.pay 25) (sub y.pay 31 2) false]++(sub y.pay 46 4 ++ [gd y.pay 9,.i 0])))
def gY(N:Nat)(p q r:b8)(J:Out):Out:=
 (let y:=aX (zf N p q r) N (sub J.pay 0 21++([.i 0]++sub J.pay 21 29));
  nd y.isSome (nd (y.code==2) (xY N p q r y)))
def nF(N:Nat)(p q r:b8):Out:=
 bif (aV (sub p 0 9) [gd q 0] (sub r 0 2)) != 0 then nd (dY (sub p 0 9)||(aV (sub p 0 9) [gd q 0] (sub r 0 2))==1) (some (1,sub (sub (Ph p q r) 0 9) 0 9 ++ [.i (aV (sub p 0 9) [gd q 0] (sub r 0 2))]))
 else nd (dY (sub p 0 9)) (bif (gd q 0).int==(gd p 8).int then bif !(lD (gd p 1) (sub r 0 2)) then some (1,sub (dpS p) 0 9 ++ [.i 0])
 else (let y:Out:=(nx (sub p 0 9++([gd q 0,gd r 0,gd r 1,.i 0,.i 0,.i 0,.i 0,.i (aV (sub p 0 9) [gd q 0] (sub r 0 2)),.b ((aV (sub p 0 9) [gd q 0] (sub r 0 2)) != 0),.i 0,.b (!(lD (gd p 1) (sub r 0 2))),.b false]++(sub p 0 9++([gd r 0,gd r 1,.i 0,.l [],.l [],.l [],.l [],.l [],.l [],.l [],.i 0]++sub (dpS p) 0 9)))));
  nd y.isSome (gY N p q r y))
 else (let y:Out:=(nx (sub p 0 9++([gd q 0,gd r 0,gd r 1,.i 0,.i 0,.i 0,.i 0,.i (aV (sub p 0 9) [gd q 0] (sub r 0 2)),.b ((aV (sub p 0 9) [gd q 0] (sub r 0 2)) != 0),.i 0,.b false,.b false]++(sub p 0 9++([gd r 0,gd r 1,.i 0,.l [],.l [],.l [],.l [],.l [],.l [],.l [],.i 0]++sub (dpS p) 0 9)))));
  nd y.isSome (gY N p q r y)))
theorem KV(N:Nat)(p q r:b8):bf f8 sE N sC Tryz.f54 (.tup [.agg d9,.c (.d si)]) [⟨ag aR,p⟩,⟨ri,q⟩,⟨ag aI,r⟩]=some (bo,nF N p q r):=by kernel_rfl
theorem OP(p q r l:b8)(h3:(gd l 24).rows.length<=60)(h4:(gd l 25).rows.length<=60)(hS:SmS 5000 (sub l 41 9)):GG (fun c l=>c=1/\l=sub l 0 10/\SmS 5000 l) (gY 62 p q r (some (0,l))):=by
 unfold gY;refine git (K:=xY 62 p q r) (c:=2) (fun x=>gd x 25=gd l 24/\sub x 42 9=sub l 41 9) ?_ ?_
 ·refine ir (I:=fun k s=>s=sub s 0 51/\(gd s 21).int=(k:Int)/\gd s 26=gd l 25/\k<=60/\gd s 25=gd l 24/\sub s 42 9=sub l 41 9) 60 (fun k s Y=>?_) 62 0 _ ⟨ar _,rfl,rfl,n5 _,rfl,rfl⟩ (by decide) (n5 _);obtain⟨e,hi,J,hk,y,U⟩:=Y;have hw:w64 ((gd s 21).int+1)=((k+1:Nat):Int):=by rw[bD (by omega) (by omega)];omega
  refine grd e (geq (Ov _ _ _ _ s) (bt (fun M=>gnd ?_ (amv ?_ (gjs (K:=uo _ _ _ _ _) (afz (fun W=>rv (bc (.inl ⟨rfl,?_,ar _,hw,J,?_,y,U⟩))) (fun W=>rv (bc (.inl ⟨rfl,?_,ar _,hw,J,?_,y,U⟩))))))) (fun M=>bc (.inr ⟨by decide,rfl,y,U⟩))))
  all_goals
   have a1:(gd s 21).int<((gd s 26).rows.length:Int):=i7 M;have hn:k<(gd s 26).rows.length:=by omega
   have V:k<60:=by rw[J] at hn;omega
   have hin:ah (gd s 21).int (gd s 26).rows.length=true:=by rw[hi];exact bK hn
   first
   | exact dp hin rfl
   | exact dp (dp hin rfl) (bn _)
   | exact V
 ·rintro x ⟨O,xd⟩;have a0:SmS 5000 (sub x 42 9):=by rw[xd];exact hS
  obtain⟨d1,d2,d3,d4,d5,d6,Z,d8⟩:=a0;have hc:∀z w,(gd (cT z w) 0).rows.length<=5000:=fun z w=>m8 (xy (p:=z) (q:=w) rfl) (by decide)
  have Y:∀w,(pk (gd x 25) w false).rows.length<=5000:=fun w=>by
   unfold pk;cases aN (gd x 25)&&ax (sub w 0 2) with
   | false=>exact n5 _
   | true =>refine m8 (jy _ _ _) ?_;rw[O];omega
  refine bt (fun M=>bc ⟨rfl,ar _,?_⟩) (fun M=>bt (fun W=>bc ⟨rfl,ar _,?_⟩) (fun W=>bt (fun c3=>bc ⟨rfl,ar _,?_⟩) (fun c3=>bt (fun c4=>bc ⟨rfl,ar _,?_⟩) (fun c4=>gnd ?_ (bc ⟨rfl,ar _,?_⟩)))))
  all_goals first
   | exact⟨d1,d2,d3,d4,d5,d6,Z,d8⟩
   | (show leI ((gd x 25).rows.length:Int) 1000000000=true;rw[O];exact bi (by omega))
   | exact⟨hc _ _,hc _ _,Y _,d4,d5,d6,Z,d8⟩
@[irreducible] def ki(p:b8)(q:D)(r:b8):b8:=sub (nF (62) p [q] r).pay 0 10
theorem wB(p q r:b8)(h:(true)=true):GG (fun c l=>c=1/\l=sub l 0 10/\(SmS 5000 l)) (nF (62) p q r):=by
 unfold nF;refine bt (fun M=>gnd ?_ (bc ⟨rfl,ar _,?_⟩)) (fun M=>gnd ?_ (bt (fun O=>bt (fun W=>bc ⟨rfl,ar _,?_⟩) (fun W=>gjs (K:=gY _ _ _ _) (rv (?_)))) (fun O=>gjs (K:=gY _ _ _ _) (rv (?_)))))
 ·exact EH p [gd q 0] r
 ·exact Tu p (gd q 0) r
 all_goals
  obtain⟨hsh,_⟩:=Mz M;have y:SmS 60 (sub p 0 9):=AX hsh;have J:SmS 5000 (dpS p):=AG (mF y) (by decide);have U:(gd p 3).rows.length<=60:=y.2.2.1;have V:(gd p 4).rows.length<=60:=y.2.2.2.1;have Y:(gd p 5).rows.length<=60:=y.2.2.2.2.1
  first
  | exact gr hsh
  | exact J
  | exact OP p q r _ U V J
theorem Mj{p:b8}{q:D}{r:b8}(h:(true)=true):SmS 5000 (ki p q r):=by unfold ki;exact (cH (wB p [q] r h)).2
def Be:Ent:=(54,e3 (ag aR) ri (ag aI) fun p q r=>(⟨.tup [.agg d9,.c (.d si)],ki p (gd q 0) r⟩,true))
theorem Lb:ay f8 Be:=gW fun p q r h=>alG rfl <| au (N:=62) (ks:=sC) (al (fC ⟨pE,fC ⟨jO,fC ⟨fM,fC ⟨nJ,fC ⟨gL,fC ⟨md,fC ⟨gn,fC ⟨wA,fC ⟨AU,fN⟩⟩⟩⟩⟩⟩⟩⟩⟩)) Tryz.func54 fun hw=>by rw[KV];exact congrArg (fun x=>some (bo,x)) ((cH (wB p [gd q 0] r h)).1.trans (by unfold ki;exact rfl))
def amn(P:Program)(call:FuncId->List T->Option (T × Bool))(N:Nat)(ks:List Nat)(fin:St->Option b8)(fn:Func)(id:Nat)(d:Dom):b8->Out:=
 match fn.body with
 | some c=>match ru id c with
  | some b=>CU P call N ks fin b d
  | none=>fun _=>none
 | none=>fun _=>none
theorem aac(a:R):iE true a=a:=by
 cases a with
 | none=>rfl
 | some x=>rfl
theorem tP(b c:Bool)(a:R):iE b (iE c a)=iE (b&&c) a:=by
 cases a with
 | none=>rfl
 | some x=>cases b <;> cases c <;> rfl
section
variable (P:Program) (call:FuncId->List T->Option (T × Bool)) (N:Nat) (ks:List Nat) (fin:St->Option b8)
def adx(ops:Array Oper):List Oper->St->(St->Option (Bool × St))->Option (Bool × St)
 | [],σ,k=>k σ
 | o::rest,σ,k=>match Mx ops σ o with
  | .yes=>match Io P call σ o with
   | some (σ',ok)=>match adx ops rest σ' k with
    | some (b,τ)=>some (ok&&b,τ)
    | none=>none
   | none=>none
  | .no=>adx ops rest (σ.put o.dst .none_) k
  | _=>none
theorem Un{ops:Array Oper}{O:St->Option (Bool × St)}{k U:St->R}(hk:∀(σ:St) (b:Bool) (J:St),O σ=some (b,J)->k σ=iE b (U J)):∀(l:List Oper) (σ:St) {b:Bool} {J:St},adx P call ops l σ O=some (b,J)->wN P call ops l σ k=iE b (U J)
 | [],σ,b,J,h=>hk σ b J h
 | o::rest,σ,b,J,h=>by
  unfold adx at h;unfold wN aaj sw;cases hw:Mx ops σ o with
  | yes =>
   rw[hw] at h;dsimp only at h ⊢;unfold II;cases V:Io P call σ o with
   | none=>rw[V] at h;cases h
   | some x =>
    rw[V] at h;dsimp only at h ⊢;cases M:adx P call ops rest x.1 O with
    | none=>rw[M] at h;cases h
    | some y =>rw[M] at h;cases h;rw[Un hk rest x.1 M,tP]
  | no =>rw[hw] at h;exact Un hk rest _ h
  | ask t g c=>rw[hw] at h;cases h
  | bad=>rw[hw] at h;cases h
def lg:List Code->St->(St->R)->(Nat->St->R)->(Option b8->R)->R
 | [],σ,kn,_,_=>kn σ
 | c::cs,σ,kn,kx,kr=>dt P call N ks fin c σ (fun y=>lg cs y kn kx kr) kx kr
theorem Hf:∀(xs ys:List Code) (σ:St) (O:St->R) (M:Nat->St->R) (y:Option b8->R),lg P call N ks fin (xs++ys) σ O M y=lg P call N ks fin xs σ (fun J=>lg P call N ks fin ys J O M y) M y
 | [],ys,σ,O,M,y=>rfl
 | c::cs,ys,σ,O,M,y=>by
  show dt P call N ks fin c σ (fun J=>lg P call N ks fin (cs++ys) J O M y) M y=dt P call N ks fin c σ (fun J=>lg P call N ks fin cs J (fun U=>lg P call N ks fin ys U O M y) M y) M y
  congr 1
  funext J;exact Hf cs ys J O M y
theorem YM(n:Nat)(xs:List Code)(σ:St)(M:St->R)(J:Nat->St->R)(y:Option b8->R):lg P call N ks fin xs σ M J y=lg P call N ks fin (xs.take n) σ (fun O=>lg P call N ks fin (xs.drop n) O M J y) J y:=by rw[<- Hf,H3]
def PH:Code->List Code
 | .seq a b=>PH a++PH b
 | .skip => []
 | c => [c]
theorem aaW:∀(c:Code) (σ:St) (M:St->R) (J:Nat->St->R) (y:Option b8->R),dt P call N ks fin c σ M J y=lg P call N ks fin (PH c) σ M J y:=by
 intro c
 induction c with
 | seq a b U V =>
  intro σ M J y;show dt P call N ks fin a σ (fun O=>dt P call N ks fin b O M J y) J y=lg P call N ks fin (PH a++PH b) σ M J y;rw[Hf,U]
  congr 1
  funext O;exact V O M J y
 | _=>intro σ M J y;rfl
def Ai:List Code->St->Option (Bool × St)
 | [],σ=>some (true,σ)
 | .region id ops draw::cs,σ=>bif draw||(jF ks).contains (1000000+id) then none else
  adx P call ops ops.toList (σ.cut id ks) fun J=>Ai cs (J.settle ks)
 | .cond c a b::cs,σ=>bif Yg ks c&&(!(hU a||hU b)&&(eB a++eB b).eraseDups.isEmpty) then
  match (opd σ c).sh with
  | .one (.c (.d .bool)) =>
   match MP (lU P call ks 999999 a σ (fun y=>Jo (y.settle ks)) (fun _ _=>r0)) (lU P call ks 999999 b σ (fun y=>Jo (y.settle ks)) (fun _ _=>r0)) with
   | some (some d,_) =>
    match sv (gd (opd σ c).p 0).bool (dt P call N ks fin a (σ.learn ks c true) (fun y=>ms d 0 (y.settle ks).wide) (fun j y=>ms d (j+2) (y.settle ks).wide) dP) (dt P call N ks fin b (σ.learn ks c false) (fun y=>ms d 0 (y.settle ks).wide) (fun j y=>ms d (j+2) (y.settle ks).wide) dP) with
    | some (_,o)=>match Ai cs (mkSt d o.pay) with
     | some (b',υ)=>some (o.isSome&&((o.code==0)&&b'),υ)
     | none=>none
    | none=>none
   | _=>none
  | _=>none
  else none
 | .block id (.loop c)::cs,σ=>bif (jF ks).contains id||((!(σ.shed ks (.loop c)).r.isEmpty)||(hU c || !((eB c).eraseDups == [id]))) then none else
  match Ai cs ((σ.shed ks (.loop c)).restrict (mkSt (σ.shed ks (.loop c)).dom (Out.pay (aX (CU P call N ks fin c (σ.shed ks (.loop c)).dom) N (σ.shed ks (.loop c)).flat)))) with
  | some (b',υ)=>some ((aX (CU P call N ks fin c (σ.shed ks (.loop c)).dom) N (σ.shed ks (.loop c)).flat).isSome&&(((aX (CU P call N ks fin c (σ.shed ks (.loop c)).dom) N (σ.shed ks (.loop c)).flat).code==id+2)&&b'),υ)
  | none=>none
 | _,_=>none
theorem Lt:∀(l:List Code) (σ:St) {b:Bool} {V:St} (J:St->R) (O:Nat->St->R) (U:Option b8->R),Ai P call N ks fin l σ=some (b,V)->lg P call N ks fin l σ J O U=iE b (J V)
 | [],σ,b,V,J,O,U,h=>by unfold Ai at h;cases h;exact (aac _).symm
 | .region id ops draw::cs,σ,b,V,J,O,U,h=>by
  unfold Ai at h;cases M:(draw||(jF ks).contains (1000000+id)) with
  | true=>rw[M] at h;cases h
  | false =>
   rw[M,f9] at h;obtain⟨h1,W⟩:draw=false/\(jF ks).contains (1000000+id)=false:=by cases draw <;> simp_all
   unfold lg dt;rw[W,f9,h1,f9];exact Un P call (fun a0 b' a1 h'=>Lt cs (a0.settle ks) J O U h') _ _ h
 | .cond c a b2::cs,σ,b,V,J,O,U,h=>by
  unfold Ai at h;cases M:(Yg ks c&&(!(hU a||hU b2)&&(eB a++eB b2).eraseDups.isEmpty)) with
  | false=>rw[M] at h;cases h
  | true =>
   rw[M,g6] at h;rw[a9,a9] at M;obtain⟨h1,W,Y⟩:=M;have W:(hU a||hU b2)=false:=by simpa using W
   have Y:(eB a++eB b2).eraseDups = []:=by simpa using Y
   split at h
   ·rename_i hsh
    split at h
    ·rename_i d x hf
     split at h
     ·rename_i y o hr
      split at h
      ·rename_i b' υ Z;cases h;unfold lg dt;rw[hsh];dsimp only;rw[h1,g6,hf];dsimp only;rw[hr];dsimp only;rw[W,Y];unfold Dr;dsimp only;rw[Lt cs _ J O U Z,tP,tP,Bool.and_assoc]
      ·cases h
     ·cases h
    ·cases h
   ·cases h
 | .block id (.loop c)::cs,σ,b,V,J,O,U,h=>by
  unfold Ai at h;cases M:((jF ks).contains id||((!(σ.shed ks (.loop c)).r.isEmpty)||(hU c || !((eB c).eraseDups == [id])))) with
  | true=>rw[M] at h;cases h
  | false =>
   rw[M,f9] at h;rw[I3,I3,I3] at M;obtain⟨h1,W,Y,h4⟩:=M;have h4:(eB c).eraseDups = [id]:=by simpa using h4
   split at h
   ·rename_i b' υ Z;cases h;unfold lg dt;rw[h1,f9];unfold dt;dsimp only;rw[W,f9,Y,f9,h4];unfold Bd;rw[s9,g6];have:=Lt cs _ J O U Z;refine (congrArg (fun z=>iE _ (iE _ z)) this).trans ?_;rw[tP,tP,Bool.and_assoc];rfl
   ·cases h
 | .skip::cs,σ,b,V,J,O,U,h=>by unfold Ai at h;cases h
 | .seq _ _::cs,σ,b,V,J,O,U,h=>by unfold Ai at h;cases h
 | .exit _::cs,σ,b,V,J,O,U,h=>by unfold Ai at h;cases h
 | .ret::cs,σ,b,V,J,O,U,h=>by unfold Ai at h;cases h
theorem UA(n:Nat){l:List Code}{σ:St}{b:Bool}{O:St}{y:St->R}{M:Nat->St->R}{J:Option b8->R}(h:Ai P call N ks fin (l.take n) σ=some (b,O)){o:Out}(U:lg P call N ks fin (l.drop n) O y M J=some (bo,o)):lg P call N ks fin l σ y M J=some (bo,bif b then o else none):=by rw[YM P call N ks fin n,Lt P call N ks fin _ _ _ _ _ h,U];rfl
end
def TU(fn:Func):Code:=
 match fn.body with
 | some c=>c
 | none=>.skip
theorem abf{P:Program}{call:FuncId->List T->Option (T × Bool)}{N:Nat}{ks:List Nat}{fn:Func}{rs:Sh}{cs:List Ce}{ds:b8}{rest:List T}{r:R}
  (J:fn.body=some (TU fn)) (y:(jk fn.ntmps (TU fn)&&Nat.ble (⟨.tup [.agg cs],ds⟩::rest:List T).length fn.ntmps&&Nat.ble fn.ntmps 1000000)=true)
  (h:lg P call N ks (iX P fn rs) (PH (TU fn)) (GJ cs ds rest) (fun σ=>dP (iX P fn rs σ)) (fun _ _=>none) dP=r) :
  jT P call N ks fn rs (⟨.tup [.agg cs],ds⟩::rest)=r:=by
 unfold jT;rw[J];dsimp only;rw[y,g6,aaW];exact h
def uF:Ent:=Ow [1000028,1000057]
theorem BH:ay f8 uF:=wY _
abbrev fF:=find [iK,dI,Gq,jx,sB,kU,qC,Bg,oR,mG,wK,ww,Be,AD,uk,uF]
abbrev fE:=[0,1,4,5,6,7,8,9,10,11,16,24,34,42,50,60,74,90,101,121,134,139,153,167,1000034,3000021,3000025,3000029,3000030,3000032,10000016,10000024,6000005,8000006,9000060,9000074,9000090,4000005]
abbrev f5:List Ce:=[.d si,.own (4,1) true 41,.own (4,2) true 41,.own (4,3) true 108,.own (4,4) true 93,.own (4,5) true 75,.own (4,6) true 3,.own (4,7) true 3,.d si]
abbrev f6:List Ce:=[.d si,.d (.sl 41),.d (.sl 41),.d (.sl 108),.d (.sl 93),.own (6,705) false 75,.d (.sl 3),.d (.sl 3),.d si]
def jP(N:Nat)(p q:b8):b8->Out:=amn f8 fF N fE (iX f8 Tryz.f133 (.tup [.agg [.any],.agg f4,.agg d9])) Tryz.f133 0 ([(0,.one (.c (.ptr 1000000 0))),(1,ri),(4,.one (.c (.ptr 4 0))),(5,sd (.sl 41)),(16,rb),(6,.one (.c (.ptr 6 0))),(24,rb),(7,ri),(8,ri)],[(1000000,f4),(4,f5),(6,f6)])
def ac(y:b8):b8:=aa (sub (aa (sub y 9 3) (.i 9)) 1 3) (.i 12)
def nj(y:Out):b8:=cu (sub y.pay 30 9) (gd y.pay 10) (.b (!(gd (af (sub y.pay 18 3) (.i 3)) 4).bool))
def mX(y:b8):b8:=gX (sub y 21 9) (.i (w64 ((gd y 29).int+1))) [.i 30,.i 35] (.l [])
def dA(y:b8):b8:=km (sub y 21 9) (.i (w64 ((gd y 29).int+1))) (sub ((gd y 23).rows.getD 0 []) 0 2)
def dz(y:b8):b8:=ki (sub y 21 9) (.i (w64 ((gd y 29).int+1))) (sub ((gd y 23).rows.getD 0 []) 0 2)
def cQ(y:b8):b8:=af (sub (af (sub (ac y) 1 3) (.i 4)) 1 3) (.i 3)
def bz(y:b8):b8:=aa (sub (af (sub (ac y) 1 3) (.i 4)) 1 3) (.i ((gd y 26).rows.length:Int))
def dx(y:b8):b8:=aeV (sub y 21 9) (.i (w64 ((gd y 29).int+1))) (sub (aO (sub (ac y) 1 3)) 4 2)
def bJ(y:b8):b8:=dv (sub (ac y) 1 3) (sub y 21 9) (.i (w64 (1+(gd (aa (sub y 9 3) (.i 9)) 4).int)))
def bH(y:b8):b8:=kj (sub y 21 9) (.i (w64 (1+(gd (aa (sub y 9 3) (.i 9)) 4).int))) (sub (aO (sub (ac y) 1 3)) 4 2)
def cF(y:b8):b8:=cu (sub y 21 9) (.i (w64 (1+(gd (aa (sub y 9 3) (.i 9)) 4).int))) (.b (!(gd (af (sub (ac y) 1 3) (.i 3)) 4).bool))
def gC(y:b8):b8:=(gd y 26).rows.getD (gd (bz y) 4).int.toNat []
def lC(y:b8):b8:=sub (dx y) 0 11
def cd(y:b8):b8:=aE (sub (bJ y) 1 3)
def cC(y:b8):b8:=cu (sub y 21 9) (.i (w64 (1+(gd (aa (sub y 9 3) (.i 9)) 4).int))) (.b (!(gd (cQ y) 4).bool))
def dJ(y:b8):b8:=prS (sub y 21 9) (.i (w64 (1+(gd (aa (sub y 9 3) (.i 9)) 4).int))) (gd (bJ y) 4) (gd (cd y) 4)
def ev(y:b8):b8:=sub (dJ y) 0 10
def cY(N:Nat)(p q:b8)(y:b8)(J:Out):Out:=
 bif (gd J.pay 12).int != 1 then nx (sub J.pay 0 8++([.i (w64 ((gd J.pay 8).int+1))]++(sub J.pay 15 12++sub J.pay 36 9)))
  else nx (sub J.pay 0 8++([.i (w64 ((gd J.pay 8).int+1))]++sub J.pay 15 21))
def dR(N:Nat)(p q:b8)(y:b8)(J:Out):Out:=
 bif (gd J.pay 12).int != 1 then nx (sub J.pay 0 8++([.i (w64 ((gd J.pay 8).int+1))]++(sub J.pay 16 12++sub J.pay 37 9)))
  else nx (sub J.pay 0 8++([.i (w64 ((gd J.pay 8).int+1))]++sub J.pay 16 21))
def kG(N:Nat)(p q:b8)(y:b8)(J:Out):Out:=
 bif (gd J.pay 12).int != 1 then nx (sub J.pay 0 8++([.i (w64 ((gd J.pay 8).int+1))]++(sub J.pay 18 12++sub J.pay 39 9)))
  else nx (sub J.pay 0 8++([.i (w64 ((gd J.pay 8).int+1))]++sub J.pay 18 21))
def dq(N:Nat)(p q:b8)(y:b8):List b8:= [[gd (bH y) 10],[gd (bH y) 10],[gd (bH y) 9],sub (bH y) 0 9,sub (bH y) 0 11,sub (bH y) 0 11,[gd (aO (sub (ac y) 1 3)) 4,gd (aO (sub (ac y) 1 3)) 5],sub y 21 9,[gd y 0],[.i (w64 (1+(gd (aa (sub y 9 3) (.i 9)) 4).int))],[gd y 0],[gd y 1],[gd y 2],[gd y 3],[gd y 4],[gd y 5],[gd y 6],[gd y 7],[gd y 8],[.b (ltI (gd y 8).int (gd y 7).int)],[.i (w64 (1+(gd (aa (sub y 9 3) (.i 9)) 4).int))],[.i 0],[gd (ac y) 4],[.i 0],sub (aO (sub (ac y) 1 3)) 1 3,sub y 12 9,sub y 21 9,sub (bH y) 0 9]
def eR(N:Nat)(p q:b8)(y:b8):List b8:= [[gd (sub (dJ y) 0 10) 9],[gd (sub (dJ y) 0 10) 9],sub (sub (dJ y) 0 10) 0 9,sub (sub (dJ y) 0 10) 0 10,sub (sub (dJ y) 0 10) 0 10,[gd (cd y) 4],[gd (bJ y) 4],sub y 21 9,sub y 21 9,[gd y 0],[.i (w64 (1+(gd (aa (sub y 9 3) (.i 9)) 4).int))],[gd y 0],[.i (w64 (1+(gd (aa (sub y 9 3) (.i 9)) 4).int))],[gd y 0],[gd y 1],[gd y 2],[gd y 3],[gd y 4],[gd y 5],[gd y 6],[gd y 7],[gd y 8],[.b (ltI (gd y 8).int (gd y 7).int)],[.i (w64 (1+(gd (aa (sub y 9 3) (.i 9)) 4).int))],[.i 0],[gd (ac y) 4],[.i 0],[.i 0],sub (cd y) 1 3,sub y 12 9,sub y 21 9,sub (sub (dJ y) 0 10) 0 9]
def dr(N:Nat)(p q:b8)(y:b8):List b8:= [[gd (gC y) 0],[gd (gC y) 0],[.l [[.l (gd y 26).rows,.i (gd (bz y) 4).int]]],[.l [[.l (gd y 26).rows,.i (gd (bz y) 4).int]]],[gd (bz y) 4],[.i ((gd y 26).rows.length:Int)],[gd y 26],[gd y 26],[.i 0],[gd y 0],[.i 0],[gd y 0],[gd y 1],[gd y 2],[gd y 3],[gd y 4],[gd y 5],[gd y 6],[gd y 7],[gd y 8],[.b (ltI (gd y 8).int (gd y 7).int)],[.i 0],[.i 1],[gd (ac y) 4],[.i 0],[.i 0],[.i 0],[.b (!(gd (af (sub (ac y) 1 3) (.i 4)) 4).bool)],sub (bz y) 1 3,sub y 12 9,sub y 21 9,sub y 21 9]
def qM(N:Nat)(p q:b8)(y:b8)(J:Out):List b8:= [[gd (cu (sub J.pay 30 9) (gd J.pay 10) (.b (!(gd (af (sub J.pay 18 3) (.i 3)) 4).bool))) 9],[gd (cu (sub J.pay 30 9) (gd J.pay 10) (.b (!(gd (af (sub J.pay 18 3) (.i 3)) 4).bool))) 9],sub (cu (sub J.pay 30 9) (gd J.pay 10) (.b (!(gd (af (sub J.pay 18 3) (.i 3)) 4).bool))) 0 9,sub (cu (sub J.pay 30 9) (gd J.pay 10) (.b (!(gd (af (sub J.pay 18 3) (.i 3)) 4).bool))) 0 10,sub (cu (sub J.pay 30 9) (gd J.pay 10) (.b (!(gd (af (sub J.pay 18 3) (.i 3)) 4).bool))) 0 10,[.b (!(gd (af (sub J.pay 18 3) (.i 3)) 4).bool)],[gd (af (sub J.pay 18 3) (.i 3)) 4],sub J.pay 30 9,[gd J.pay 0],[gd J.pay 10],[gd J.pay 0],[gd J.pay 1],[gd J.pay 2],[gd J.pay 3],[gd J.pay 4],[gd J.pay 5],[gd J.pay 6],[gd J.pay 7],[gd J.pay 8],[gd J.pay 9],[gd J.pay 10],[gd J.pay 11],[gd J.pay 13],[gd J.pay 14],[gd J.pay 15],[gd J.pay 16],[gd J.pay 17],sub (af (sub J.pay 18 3) (.i 3)) 1 3,sub J.pay 21 9,sub J.pay 30 9,sub (cu (sub J.pay 30 9) (gd J.pay 10) (.b (!(gd (af (sub J.pay 18 3) (.i 3)) 4).bool))) 0 9]
def iy(N:Nat)(p q:b8)(y:b8):List b8:= [[gd (cC y) 9],[gd (cC y) 9],sub (cC y) 0 9,sub (cC y) 0 10,sub (cC y) 0 10,[.b (!(gd (cQ y) 4).bool)],[gd (cQ y) 4],sub y 21 9,[gd y 0],[.i (w64 (1+(gd (aa (sub y 9 3) (.i 9)) 4).int))],[gd y 0],[gd y 1],[gd y 2],[gd y 3],[gd y 4],[gd y 5],[gd y 6],[gd y 7],[gd y 8],[.b (ltI (gd y 8).int (gd y 7).int)],[.i (w64 (1+(gd (aa (sub y 9 3) (.i 9)) 4).int))],[.i 0],[gd (ac y) 4],[.i 0],[.i 0],[.i 0],[.b (!(gd (af (sub (ac y) 1 3) (.i 4)) 4).bool)],sub (cQ y) 1 3,sub y 12 9,sub y 21 9,sub (cC y) 0 9]
def il(N:Nat)(p q:b8)(y:b8):List b8:= [[gd (cF y) 9],[gd (cF y) 9],sub (cF y) 0 9,sub (cF y) 0 10,sub (cF y) 0 10,[.b (!(gd (af (sub (ac y) 1 3) (.i 3)) 4).bool)],[gd (af (sub (ac y) 1 3) (.i 3)) 4],sub y 21 9,[gd y 0],[.i (w64 (1+(gd (aa (sub y 9 3) (.i 9)) 4).int))],[gd y 0],[gd y 1],[gd y 2],[gd y 3],[gd y 4],[gd y 5],[gd y 6],[gd y 7],[gd y 8],[.b (ltI (gd y 8).int (gd y 7).int)],[.i (w64 (1+(gd (aa (sub y 9 3) (.i 9)) 4).int))],[.i 0],[gd (ac y) 4],[.i 0],[.i 0],[.i 0],[.i 0],sub (af (sub (ac y) 1 3) (.i 3)) 1 3,sub y 12 9,sub y 21 9,sub (cF y) 0 9]
def qN(N:Nat)(p q:b8)(y:b8):List b8:= [[gd (sub (dx y) 0 11) 10],[gd (sub (dx y) 0 11) 10],[gd (sub (dx y) 0 11) 9],sub (sub (dx y) 0 11) 0 9,sub (sub (dx y) 0 11) 0 11,sub (sub (dx y) 0 11) 0 11,[gd (aO (sub (ac y) 1 3)) 4,gd (aO (sub (ac y) 1 3)) 5],[.i (w64 ((gd y 29).int+1))],[gd y 29],sub y 21 9,[gd y 0],[.i 0],[gd y 0],[gd y 1],[gd y 2],[gd y 3],[gd y 4],[gd y 5],[gd y 6],[gd y 7],[gd y 8],[.b (ltI (gd y 8).int (gd y 7).int)],[.i (w64 (1+(gd (aa (sub y 9 3) (.i 9)) 4).int))],[.i 0],[gd (ac y) 4],[.i 0],[.i 0],[.i 0],[.b ((gd (ac y) 4).int==9)],sub (aO (sub (ac y) 1 3)) 1 3,sub y 12 9,sub y 21 9,sub (sub (dx y) 0 11) 0 9]
def qH(N:Nat)(p q:b8)(y:b8):List b8:= [[gd (dz y) 9],[gd (dz y) 9],sub (dz y) 0 9,sub (dz y) 0 10,sub (dz y) 0 10,[gd ((gd y 23).rows.getD 0 []) 0,gd ((gd y 23).rows.getD 0 []) 1],[.l [[.l (gd y 23).rows,.i 0]]],[gd y 23],[.i 0],[.i (w64 ((gd y 29).int+1))],[gd y 29],[.i 0],sub y 21 9,[gd y 0],[gd y 1],[gd y 2],[gd y 3],[gd y 4],[gd y 5],[gd y 6],[gd y 7],[gd y 8],[.b (ltI (gd y 8).int (gd y 7).int)],[.i (w64 (1+(gd (aa (sub y 9 3) (.i 9)) 4).int))],[.i 0],[gd (ac y) 4],[.i 0],[.i 0],[.i 0],[.b ((gd (ac y) 4).int==9)],[.b ((gd (ac y) 4).int==10)],[.b (ltI 0 ((gd y 23).rows.length:Int))],sub (ac y) 1 3,sub y 12 9,sub y 21 9,sub (dz y) 0 9]
def rc(N:Nat)(p q:b8)(y:b8):List b8:= [[gd (dA y) 9],[gd (dA y) 9],sub (dA y) 0 9,sub (dA y) 0 10,sub (dA y) 0 10,[gd ((gd y 23).rows.getD 0 []) 0,gd ((gd y 23).rows.getD 0 []) 1],[.l [[.l (gd y 23).rows,.i 0]]],[gd y 23],[.i 0],[.i (w64 ((gd y 29).int+1))],[gd y 29],[.i 0],sub y 21 9,[gd y 0],[gd y 1],[gd y 2],[gd y 3],[gd y 4],[gd y 5],[gd y 6],[gd y 7],[gd y 8],[.b (ltI (gd y 8).int (gd y 7).int)],[.i (w64 (1+(gd (aa (sub y 9 3) (.i 9)) 4).int))],[.i 0],[gd (ac y) 4],[.i 0],[.i 0],[.i 0],[.b ((gd (ac y) 4).int==9)],[.b ((gd (ac y) 4).int==10)],[.b (ltI 0 ((gd y 23).rows.length:Int))],[gd (af (sub (ac y) 1 3) (.i 2)) 4],sub (af (sub (ac y) 1 3) (.i 2)) 1 3,sub y 12 9,sub y 21 9,sub (dA y) 0 9]
def fX(N:Nat)(p q:b8)(y:b8)(J:Out):Out:=
 (let M:Out:=(nd ((aw (gd J.pay 18) (gd J.pay 19))&&true) (nd (((aw (gd J.pay 18) (gd J.pay 19))&&true)&&(em (qM N p q y J) (qM N p q y J))) (nx (sub J.pay 0 12++([gd (nj J) 9]++(sub J.pay 13 5++([gd (af (sub J.pay 18 3) (.i 3)) 1,gd (af (sub J.pay 18 3) (.i 3)) 2,gd (af (sub J.pay 18 3) (.i 3)) 3]++(sub J.pay 21 18++sub (nj J) 0 9))))))));
  nd M.isSome (kG N p q y M))
def da(N:Nat)(p q:b8)(y:b8)(J:Out):Out:=
 bif (gd J.pay 12).int != 1 then nx (sub J.pay 0 8++([.i (w64 ((gd J.pay 8).int+1))]++(sub J.pay 18 12++sub J.pay 39 9)))
  else nx (sub J.pay 0 8++([.i (w64 ((gd J.pay 8).int+1))]++sub J.pay 18 21))
def kF(N:Nat)(p q:b8)(y:b8)(J:Out):Out:=
 bif (gd J.pay 12).int != 1 then nx (sub J.pay 0 8++([.i (w64 ((gd J.pay 8).int+1))]++(sub J.pay 18 12++sub J.pay 39 9)))
  else nx (sub J.pay 0 8++([.i (w64 ((gd J.pay 8).int+1))]++sub J.pay 18 21))
theorem HU(N:Nat)(p q:b8)(y:b8):(jP N p q) (sub y 0 30) =
 bif ltI (gd y 8).int (gd y 7).int then nd (aw (gd y 9) (gd y 10)) (nd (aw (gd (aa [gd y 9,gd y 10,gd y 11] (.i 9)) 1) (gd (aa [gd y 9,gd y 10,gd y 11] (.i 9)) 2)) (bif (gd (ac y) 4).int==0 then (let M:Out:=(nd ((aw (gd (ac y) 1) (gd (ac y) 2))&&true) (nd (((aw (gd (ac y) 1) (gd (ac y) 2))&&true)&&(em (dq N p q y) (dq N p q y))) (nx (sub y 0 9++([.b (ltI (gd y 8).int (gd y 7).int),.i (w64 (1+(gd (aa [gd y 9,gd y 10,gd y 11] (.i 9)) 4).int)),.i 0,gd (bH y) 10,gd (ac y) 4,.b true,gd (aO (sub (ac y) 1 3)) 1,gd (aO (sub (ac y) 1 3)) 2,gd (aO (sub (ac y) 1 3)) 3]++(sub y 12 18++sub (bH y) 0 9))))));
  nd M.isSome (cY N p q y M))
 else bif (gd (ac y) 4).int==1 then (let M:Out:=(nd ((aw (gd (ac y) 1) (gd (ac y) 2))&&true) (nd (((aw (gd (ac y) 1) (gd (ac y) 2))&&true)&&(em (dq N p q y) (dq N p q y))) (nx (sub y 0 9++([.b (ltI (gd y 8).int (gd y 7).int),.i (w64 (1+(gd (aa [gd y 9,gd y 10,gd y 11] (.i 9)) 4).int)),.i 0,gd (bH y) 10,gd (ac y) 4,.b true,gd (aO (sub (ac y) 1 3)) 1,gd (aO (sub (ac y) 1 3)) 2,gd (aO (sub (ac y) 1 3)) 3]++(sub y 12 18++sub (bH y) 0 9))))));
  nd M.isSome (cY N p q y M))
 else bif (gd (ac y) 4).int==2 then (let M:Out:=(nd ((aw (gd (ac y) 1) (gd (ac y) 2))&&true) (nd (((aw (gd (ac y) 1) (gd (ac y) 2))&&true)&&(em (dq N p q y) (dq N p q y))) (nx (sub y 0 9++([.b (ltI (gd y 8).int (gd y 7).int),.i (w64 (1+(gd (aa [gd y 9,gd y 10,gd y 11] (.i 9)) 4).int)),.i 0,gd (bH y) 10,gd (ac y) 4,.b true,gd (aO (sub (ac y) 1 3)) 1,gd (aO (sub (ac y) 1 3)) 2,gd (aO (sub (ac y) 1 3)) 3]++(sub y 12 18++sub (bH y) 0 9))))));
  nd M.isSome (cY N p q y M))
 else bif (gd (ac y) 4).int==3 then (let M:Out:=(nd ((aw (gd (ac y) 1) (gd (ac y) 2))&&true) (nd (((aw (gd (ac y) 1) (gd (ac y) 2))&&true)&&(em (dq N p q y) (dq N p q y))) (nx (sub y 0 9++([.b (ltI (gd y 8).int (gd y 7).int),.i (w64 (1+(gd (aa [gd y 9,gd y 10,gd y 11] (.i 9)) 4).int)),.i 0,gd (bH y) 10,gd (ac y) 4,.b true,gd (aO (sub (ac y) 1 3)) 1,gd (aO (sub (ac y) 1 3)) 2,gd (aO (sub (ac y) 1 3)) 3]++(sub y 12 18++sub (bH y) 0 9))))));
  nd M.isSome (cY N p q y M))
 else bif (gd (ac y) 4).int==4 then (let O:Out:=(nd ((aw (gd (ac y) 1) (gd (ac y) 2)&&leI ((gd y 25).rows.length:Int) 1000000)&&((aw (gd (bJ y) 1) (gd (bJ y) 2))&&true)) (ndN 3 (((aw (gd (ac y) 1) (gd (ac y) 2)&&leI ((gd y 25).rows.length:Int) 1000000)&&((aw (gd (bJ y) 1) (gd (bJ y) 2))&&true))&&(em (eR N p q y) (eR N p q y))) (nx (sub y 0 9++([.b (ltI (gd y 8).int (gd y 7).int),.i (w64 (1+(gd (aa [gd y 9,gd y 10,gd y 11] (.i 9)) 4).int)),.i 0,gd (ev y) 9,gd (ac y) 4,.b false,.b true,gd (cd y) 1,gd (cd y) 2,gd (cd y) 3]++(sub y 12 18++sub (ev y) 0 9))))));
  nd O.isSome (dR N p q y O))
 else bif (gd (ac y) 4).int==5 then (let O:Out:=(nd ((aw (gd (ac y) 1) (gd (ac y) 2)&&leI ((gd y 25).rows.length:Int) 1000000)&&((aw (gd (bJ y) 1) (gd (bJ y) 2))&&true)) (ndN 3 (((aw (gd (ac y) 1) (gd (ac y) 2)&&leI ((gd y 25).rows.length:Int) 1000000)&&((aw (gd (bJ y) 1) (gd (bJ y) 2))&&true))&&(em (eR N p q y) (eR N p q y))) (nx (sub y 0 9++([.b (ltI (gd y 8).int (gd y 7).int),.i (w64 (1+(gd (aa [gd y 9,gd y 10,gd y 11] (.i 9)) 4).int)),.i 0,gd (ev y) 9,gd (ac y) 4,.b false,.b true,gd (cd y) 1,gd (cd y) 2,gd (cd y) 3]++(sub y 12 18++sub (ev y) 0 9))))));
  nd O.isSome (dR N p q y O))
 else bif (gd (ac y) 4).int==6 then (let O:Out:=(nd ((aw (gd (ac y) 1) (gd (ac y) 2)&&leI ((gd y 25).rows.length:Int) 1000000)&&((aw (gd (bJ y) 1) (gd (bJ y) 2))&&true)) (ndN 3 (((aw (gd (ac y) 1) (gd (ac y) 2)&&leI ((gd y 25).rows.length:Int) 1000000)&&((aw (gd (bJ y) 1) (gd (bJ y) 2))&&true))&&(em (eR N p q y) (eR N p q y))) (nx (sub y 0 9++([.b (ltI (gd y 8).int (gd y 7).int),.i (w64 (1+(gd (aa [gd y 9,gd y 10,gd y 11] (.i 9)) 4).int)),.i 0,gd (ev y) 9,gd (ac y) 4,.b false,.b true,gd (cd y) 1,gd (cd y) 2,gd (cd y) 3]++(sub y 12 18++sub (ev y) 0 9))))));
  nd O.isSome (dR N p q y O))
 else bif (gd (ac y) 4).int==7 then bif ltI 0 ((gd y 26).rows.length:Int) then nd (aw (gd (ac y) 1) (gd (ac y) 2)) (bif !(gd (af (sub (ac y) 1 3) (.i 4)) 4).bool then (let U:Out:=(nd ((aw (gd (af (sub (ac y) 1 3) (.i 4)) 1) (gd (af (sub (ac y) 1 3) (.i 4)) 2))&&((ah (gd (bz y) 4).int (gd y 26).rows.length)&&true)) (nd (((aw (gd (af (sub (ac y) 1 3) (.i 4)) 1) (gd (af (sub (ac y) 1 3) (.i 4)) 2))&&((ah (gd (bz y) 4).int (gd y 26).rows.length)&&true))&&(em (dr N p q y) (dr N p q y))) (nd (((aw (gd (af (sub (ac y) 1 3) (.i 4)) 1) (gd (af (sub (ac y) 1 3) (.i 4)) 2))&&((ah (gd (bz y) 4).int (gd y 26).rows.length)&&true))&&(em (dr N p q y) (dr N p q y))) (nx (sub y 0 9++([.b (ltI (gd y 8).int (gd y 7).int),gd (gC y) 0,.i 0,.i 1,gd (ac y) 4,.b false,.b false,.b true,.b (!(gd (af (sub (ac y) 1 3) (.i 4)) 4).bool),gd (bz y) 1,gd (bz y) 2,gd (bz y) 3]++(sub y 12 18++sub y 21 9)))))));
  nd U.isSome (fX N p q y U))
 else (let J:Out:=(nd ((aw (gd (af (sub (ac y) 1 3) (.i 4)) 1) (gd (af (sub (ac y) 1 3) (.i 4)) 2))&&true) (nd (((aw (gd (af (sub (ac y) 1 3) (.i 4)) 1) (gd (af (sub (ac y) 1 3) (.i 4)) 2))&&true)&&(em (iy N p q y) (iy N p q y))) (nx (sub y 0 9++([.b (ltI (gd y 8).int (gd y 7).int),.i (w64 (1+(gd (aa [gd y 9,gd y 10,gd y 11] (.i 9)) 4).int)),.i 0,gd (cC y) 9,gd (ac y) 4,.b false,.b false,.b true,.b (!(gd (af (sub (ac y) 1 3) (.i 4)) 4).bool),gd (cQ y) 1,gd (cQ y) 2,gd (cQ y) 3]++(sub y 12 18++sub (cC y) 0 9))))));
  nd J.isSome (da N p q y J)))
 else (let J:Out:=(nd ((aw (gd (ac y) 1) (gd (ac y) 2))&&true) (nd (((aw (gd (ac y) 1) (gd (ac y) 2))&&true)&&(em (il N p q y) (il N p q y))) (nx (sub y 0 9++([.b (ltI (gd y 8).int (gd y 7).int),.i (w64 (1+(gd (aa [gd y 9,gd y 10,gd y 11] (.i 9)) 4).int)),.i 0,gd (cF y) 9,gd (ac y) 4,.b false,.b false,.b true,.b false,gd (af (sub (ac y) 1 3) (.i 3)) 1,gd (af (sub (ac y) 1 3) (.i 3)) 2,gd (af (sub (ac y) 1 3) (.i 3)) 3]++(sub y 12 18++sub (cF y) 0 9))))));
  nd J.isSome (da N p q y J))
 else bif (gd (ac y) 4).int==8 then bif ltI 0 ((gd y 26).rows.length:Int) then nd (aw (gd (ac y) 1) (gd (ac y) 2)) (bif !(gd (af (sub (ac y) 1 3) (.i 4)) 4).bool then (let U:Out:=(nd ((aw (gd (af (sub (ac y) 1 3) (.i 4)) 1) (gd (af (sub (ac y) 1 3) (.i 4)) 2))&&((ah (gd (bz y) 4).int (gd y 26).rows.length)&&true)) (nd (((aw (gd (af (sub (ac y) 1 3) (.i 4)) 1) (gd (af (sub (ac y) 1 3) (.i 4)) 2))&&((ah (gd (bz y) 4).int (gd y 26).rows.length)&&true))&&(em (dr N p q y) (dr N p q y))) (nd (((aw (gd (af (sub (ac y) 1 3) (.i 4)) 1) (gd (af (sub (ac y) 1 3) (.i 4)) 2))&&((ah (gd (bz y) 4).int (gd y 26).rows.length)&&true))&&(em (dr N p q y) (dr N p q y))) (nx (sub y 0 9++([.b (ltI (gd y 8).int (gd y 7).int),gd (gC y) 0,.i 0,.i 1,gd (ac y) 4,.b false,.b false,.b true,.b (!(gd (af (sub (ac y) 1 3) (.i 4)) 4).bool),gd (bz y) 1,gd (bz y) 2,gd (bz y) 3]++(sub y 12 18++sub y 21 9)))))));
  nd U.isSome (fX N p q y U))
 else (let J:Out:=(nd ((aw (gd (af (sub (ac y) 1 3) (.i 4)) 1) (gd (af (sub (ac y) 1 3) (.i 4)) 2))&&true) (nd (((aw (gd (af (sub (ac y) 1 3) (.i 4)) 1) (gd (af (sub (ac y) 1 3) (.i 4)) 2))&&true)&&(em (iy N p q y) (iy N p q y))) (nx (sub y 0 9++([.b (ltI (gd y 8).int (gd y 7).int),.i (w64 (1+(gd (aa [gd y 9,gd y 10,gd y 11] (.i 9)) 4).int)),.i 0,gd (cC y) 9,gd (ac y) 4,.b false,.b false,.b true,.b (!(gd (af (sub (ac y) 1 3) (.i 4)) 4).bool),gd (cQ y) 1,gd (cQ y) 2,gd (cQ y) 3]++(sub y 12 18++sub (cC y) 0 9))))));
  nd J.isSome (da N p q y J)))
 else (let J:Out:=(nd ((aw (gd (ac y) 1) (gd (ac y) 2))&&true) (nd (((aw (gd (ac y) 1) (gd (ac y) 2))&&true)&&(em (il N p q y) (il N p q y))) (nx (sub y 0 9++([.b (ltI (gd y 8).int (gd y 7).int),.i (w64 (1+(gd (aa [gd y 9,gd y 10,gd y 11] (.i 9)) 4).int)),.i 0,gd (cF y) 9,gd (ac y) 4,.b false,.b false,.b true,.b false,gd (af (sub (ac y) 1 3) (.i 3)) 1,gd (af (sub (ac y) 1 3) (.i 3)) 2,gd (af (sub (ac y) 1 3) (.i 3)) 3]++(sub y 12 18++sub (cF y) 0 9))))));
  nd J.isSome (da N p q y J))
 else bif (gd (ac y) 4).int==9 then (let V:Out:=(nd ((aw (gd (ac y) 1) (gd (ac y) 2))&&true) (ndN 5 (((aw (gd (ac y) 1) (gd (ac y) 2))&&true)&&(em (qN N p q y) (qN N p q y))) (nx (sub y 0 9++([.b (ltI (gd y 8).int (gd y 7).int),.i (w64 (1+(gd (aa [gd y 9,gd y 10,gd y 11] (.i 9)) 4).int)),.i 0,gd (lC y) 10,gd (ac y) 4,.b false,.b false,.b false,.b ((gd (ac y) 4).int==9),gd (aO (sub (ac y) 1 3)) 1,gd (aO (sub (ac y) 1 3)) 2,gd (aO (sub (ac y) 1 3)) 3]++(sub y 12 18++sub (lC y) 0 9))))));
  nd V.isSome (kF N p q y V))
 else bif (gd (ac y) 4).int==10 then bif ltI 0 ((gd y 23).rows.length:Int) then nd ((ah 0 (gd y 23).rows.length)&&true) (nd (((ah 0 (gd y 23).rows.length)&&true)&&(em (qH N p q y) (qH N p q y))) (nd (aw (gd (ac y) 1) (gd (ac y) 2)) (bif (gd (af (sub (ac y) 1 3) (.i 2)) 4).bool then nd ((ah 0 (gd y 23).rows.length)&&true) (nd (((ah 0 (gd y 23).rows.length)&&true)&&(em (rc N p q y) (rc N p q y))) (bif (gd (dA y) 9).int != 1 then nx (sub y 0 8++([.i (w64 ((gd y 8).int+1)),gd (af (sub (ac y) 1 3) (.i 2)) 1,gd (af (sub (ac y) 1 3) (.i 2)) 2,gd (af (sub (ac y) 1 3) (.i 2)) 3]++(sub y 12 9++sub (dA y) 0 9)))
 else nx (sub y 0 8++([.i (w64 ((gd y 8).int+1)),gd (af (sub (ac y) 1 3) (.i 2)) 1,gd (af (sub (ac y) 1 3) (.i 2)) 2,gd (af (sub (ac y) 1 3) (.i 2)) 3]++sub y 12 18))))
 else bif (gd (dz y) 9).int != 1 then nx (sub y 0 8++([.i (w64 ((gd y 8).int+1)),gd (af (sub (ac y) 1 3) (.i 2)) 1,gd (af (sub (ac y) 1 3) (.i 2)) 2,gd (af (sub (ac y) 1 3) (.i 2)) 3]++(sub y 12 9++sub (dz y) 0 9)))
 else nx (sub y 0 8++([.i (w64 ((gd y 8).int+1)),gd (af (sub (ac y) 1 3) (.i 2)) 1,gd (af (sub (ac y) 1 3) (.i 2)) 2,gd (af (sub (ac y) 1 3) (.i 2)) 3]++sub y 12 18)))))
 else bif 1 != 1 then nx (sub y 0 8++([.i (w64 ((gd y 8).int+1)),gd (ac y) 1,gd (ac y) 2,gd (ac y) 3]++sub y 12 18))
 else nx (sub y 0 8++([.i (w64 ((gd y 8).int+1)),gd (ac y) 1,gd (ac y) 2,gd (ac y) 3]++sub y 12 18))
 else nd (Hx (.l [])) (bif (gd (mX y) 9).int != 1 then nx (sub y 0 8++([.i (w64 ((gd y 8).int+1)),gd (ac y) 1,gd (ac y) 2,gd (ac y) 3]++(sub y 12 9++sub (mX y) 0 9)))
 else nx (sub y 0 8++([.i (w64 ((gd y 8).int+1)),gd (ac y) 1,gd (ac y) 2,gd (ac y) 3]++sub y 12 18)))))
 else ex 0 (sub y 0 30):=by kernel_rfl
def aH(y:Out):b8:=af (sub (aa (sub y.pay 5 3) (.i 4)) 1 3) (.i 3)
def dl(y:Out):b8:=aa (sub y.pay 7 3) (.i (w64 ((gd y.pay 1).int+1)))
def aB(y:Out):b8:=jG (gd (aa (sub y.pay 5 3) (.i 4)) 4) (gd y.pay 3)
def gA(y:Out):b8:=gI (.l []) (gd (aE (sub (aH y) 1 3)) 4)
def mV(N:Nat)(p q:b8)(y:Out):Out:=
 some (1,[.i 0,gd y.pay 9,gd y.pay 10,gd y.pay 11]++sub y.pay 21 9)
def uq(N:Nat)(p q:b8)(y:Out):Out:=
 nd (y.code==0) (nd (aw (gd y.pay 7) (gd y.pay 8)) ((let J:=aX (jP N p q) N (sub y.pay 0 7++([gd (dl y) 4,.i 0,gd (dl y) 1,gd (dl y) 2,gd (dl y) 3]++sub y.pay 10 18));
   nd J.isSome (nd (J.code==2) (mV N p q J)))))
def ur(N:Nat)(p q:b8)(y:Out):Out:=
 nd (y.code==0) (nd (aw (gd y.pay 5) (gd y.pay 6)) (nd (Hx (gd y.pay 3)) (nd (aw (gd (aa (sub y.pay 5 3) (.i 4)) 1) (gd (aa (sub y.pay 5 3) (.i 4)) 2)) ((let J:Out:=(bif (gd (aH y) 4).bool then nd (aw (gd (aH y) 1) (gd (aH y) 2)) (bif !(aW [gd (aB y) 0,gd (aB y) 1,gd (aB y) 2,gd (gA y) 0,gd (aB y) 4,gd (aB y) 5,gd (aB y) 6,gd (aB y) 7,gd (aB y) 8]) then nx (sub y.pay 0 5++([.i 0,gd (aH y) 4,gd (aE (sub (aH y) 1 3)) 1,gd (aE (sub (aH y) 1 3)) 2,gd (aE (sub (aH y) 1 3)) 3]++(sub y.pay 8 9++([gd (aB y) 0,gd (aB y) 1,gd (aB y) 2,.l []]++sub (aB y) 4 5))))
  else nx (sub y.pay 0 5++([.i 0,gd (aH y) 4,gd (aE (sub (aH y) 1 3)) 1,gd (aE (sub (aH y) 1 3)) 2,gd (aE (sub (aH y) 1 3)) 3]++(sub y.pay 8 9++([gd (aB y) 0,gd (aB y) 1,gd (aB y) 2,gd (gA y) 0]++sub (aB y) 4 5)))))
  else nx (sub y.pay 0 5++([.i 0,gd (aH y) 4,gd (aH y) 1,gd (aH y) 2,gd (aH y) 3]++(sub y.pay 8 9++sub (aB y) 0 9))));
  nd J.isSome (uq N p q J))))))
def iH(N:Nat)(p q:b8):Out:=
 nd (aw (gd p 0) (gd p 1)) ((let y:Out:=(bif (gd (af (sub p 0 3) (.i 3)) 4).bool then nx [.i 0,gd q 0,.i 0,.l [[.i 0,.i 1000]],gd (af (sub p 0 3) (.i 3)) 4,gd (af (sub p 0 3) (.i 3)) 1,gd (af (sub p 0 3) (.i 3)) 2,gd (af (sub p 0 3) (.i 3)) 3,.i 0,.l [],.l [],.l [],.l [],.l [],.l [],.l [],.i 0]
  else nx [.i 0,gd q 0,.i 0,.l [[.i 0,.i 30],[.i 35,.i 1000]],gd (af (sub p 0 3) (.i 3)) 4,gd (af (sub p 0 3) (.i 3)) 1,gd (af (sub p 0 3) (.i 3)) 2,gd (af (sub p 0 3) (.i 3)) 3,.i 0,.l [],.l [],.l [],.l [],.l [],.l [],.l [],.i 0]);
  nd y.isSome (ur N p q y)))
def mU(N:Nat)(p q:b8):Out:=(bif (gd (af (sub p 0 3) (.i 3)) 4).bool then nx [.i 0,gd q 0,.i 0,.l [[.i 0,.i 1000]],gd (af (sub p 0 3) (.i 3)) 4,gd (af (sub p 0 3) (.i 3)) 1,gd (af (sub p 0 3) (.i 3)) 2,gd (af (sub p 0 3) (.i 3)) 3,.i 0,.l [],.l [],.l [],.l [],.l [],.l [],.l [],.i 0]
  else nx [.i 0,gd q 0,.i 0,.l [[.i 0,.i 30],[.i 35,.i 1000]],gd (af (sub p 0 3) (.i 3)) 4,gd (af (sub p 0 3) (.i 3)) 1,gd (af (sub p 0 3) (.i 3)) 2,gd (af (sub p 0 3) (.i 3)) 3,.i 0,.l [],.l [],.l [],.l [],.l [],.l [],.l [],.i 0])
def mS(N:Nat)(p q:b8)(y:Out):Out:=(bif (gd (aH y) 4).bool then nd (aw (gd (aH y) 1) (gd (aH y) 2)) (bif !(aW [gd (aB y) 0,gd (aB y) 1,gd (aB y) 2,gd (gA y) 0,gd (aB y) 4,gd (aB y) 5,gd (aB y) 6,gd (aB y) 7,gd (aB y) 8]) then nx (sub y.pay 0 5++([.i 0,gd (aH y) 4,gd (aE (sub (aH y) 1 3)) 1,gd (aE (sub (aH y) 1 3)) 2,gd (aE (sub (aH y) 1 3)) 3]++(sub y.pay 8 9++([gd (aB y) 0,gd (aB y) 1,gd (aB y) 2,.l []]++sub (aB y) 4 5))))
  else nx (sub y.pay 0 5++([.i 0,gd (aH y) 4,gd (aE (sub (aH y) 1 3)) 1,gd (aE (sub (aH y) 1 3)) 2,gd (aE (sub (aH y) 1 3)) 3]++(sub y.pay 8 9++([gd (aB y) 0,gd (aB y) 1,gd (aB y) 2,gd (gA y) 0]++sub (aB y) 4 5)))))
  else nx (sub y.pay 0 5++([.i 0,gd (aH y) 4,gd (aH y) 1,gd (aH y) 2,gd (aH y) 3]++(sub y.pay 8 9++sub (aB y) 0 9))))
def nm(N:Nat)(p q:b8)(y:Out):Out:=aX (jP N p q) N (sub y.pay 0 7++([gd (dl y) 4,.i 0,gd (dl y) 1,gd (dl y) 2,gd (dl y) 3]++sub y.pay 10 18))
noncomputable def kC:List Code:=PH (TU Tryz.f133)
def tl:Dom:=([(0,.one (.c (.ptr 1000000 0))),(1,ri),(4,.one (.c (.ptr 4 0))),(5,sd (.sl 41)),(16,rb)],[(1000000,f4),(4,f5)])
def tK:Dom:=([(0,.one (.c (.ptr 1000000 0))),(1,ri),(4,.one (.c (.ptr 4 0))),(5,sd (.sl 41)),(16,rb),(6,.one (.c (.ptr 6 0))),(24,rb)],[(1000000,f4),(4,f5),(6,f6)])
def tW:Dom:=([(0,.one (.c (.ptr 1000000 0))),(1,ri),(4,.one (.c (.ptr 4 0))),(5,sd (.sl 41)),(16,rb),(6,.one (.c (.ptr 6 0))),(24,rb),(7,ri),(8,ri)],[(1000000,f4),(4,f5),(6,f6)])
theorem BR(N:Nat)(p q:b8):Ai f8 fF N fE (iX f8 Tryz.f133 (.tup [.agg [.any],.agg f4,.agg d9])) (kC.take 4) (GJ f4 p [⟨ri,q⟩])=some (aw (gd p 0) (gd p 1)&&((mU N p q).isSome&&(((mU N p q).code==0)&&true)),mkSt tl (mU N p q).pay):=by kernel_rfl
theorem CI(N:Nat)(p q:b8)(y:Out):Ai f8 fF N fE (iX f8 Tryz.f133 (.tup [.agg [.any],.agg f4,.agg d9])) ((kC.drop 4).take 3) (mkSt tl y.pay)=some (aw (gd y.pay 5) (gd y.pay 6)&&(Hx (gd y.pay 3)&&(aw (gd (aa (sub y.pay 5 3) (.i 4)) 1) (gd (aa (sub y.pay 5 3) (.i 4)) 2)&&((mS N p q y).isSome&&(((mS N p q y).code==0)&&true)))),mkSt tK (mS N p q y).pay):=by kernel_rfl
theorem CC(N:Nat)(p q:b8)(y:Out):Ai f8 fF N fE (iX f8 Tryz.f133 (.tup [.agg [.any],.agg f4,.agg d9])) (((kC.drop 4).drop 3).take 3) (mkSt tK y.pay)=some (aw (gd y.pay 7) (gd y.pay 8)&&((nm N p q y).isSome&&(((nm N p q y).code==2)&&true)),mkSt tW (nm N p q y).pay):=by kernel_rfl
theorem CV(N:Nat)(p q:b8)(y:Out):lg f8 fF N fE (iX f8 Tryz.f133 (.tup [.agg [.any],.agg f4,.agg d9])) (((kC.drop 4).drop 3).drop 3) (mkSt tW y.pay) (fun σ=>dP ((iX f8 Tryz.f133 (.tup [.agg [.any],.agg f4,.agg d9])) σ)) (fun _ _=>none) dP=some (bo,mV N p q y):=by kernel_rfl
theorem alq(a b:Bool)(x:Out):(bif a&&b then x else none)=nd a (nd b x):=by cases a <;> rfl
theorem amo(a b:Bool)(x:Out):nd (a&&b) x=nd a (nd b x):=by cases a <;> rfl
theorem FH(N:Nat)(p q:b8):jT f8 fF N fE Tryz.f133 (.tup [.agg [.any],.agg f4,.agg d9]) [⟨.tup [.agg f4],p⟩,⟨ri,q⟩]=some (bo,iH N p q):=by
 refine abf (by kernel_rfl) (by kernel_rfl) ?_;refine (UA _ _ _ _ _ 4 (BR N p q) (UA _ _ _ _ _ 3 (CI N p q _) (UA _ _ _ _ _ 3 (CC N p q _) (CV N p q _)))).trans ?_;refine congrArg (fun x=>some (bo,x)) ?_;simp only[E6,alq,amo]
 kernel_rfl
def ShI(k:Nat)(s:b8):Prop:=s=sub s 0 30/\aw (gd s 9) (gd s 10)=true/\(gd s 8).int=(k:Int)/\(gd s 7).int<=120/\SmS 5000 (sub s 21 9)/\k<=120
theorem vQ{n:Nat}{X:b8}(h:SmS n X):SmS n [gd X 0,gd X 1,gd X 2,gd X 3,gd X 4,gd X 5,gd X 6,gd X 7,gd X 8]:=h
theorem ajH(p:b8)(n z u:D):SmS 5000 (sub (prS p n z u) 0 10):=alv p n z u
theorem afJ(p:b8)(q:D)(r:b8):SmS 5000 (sub (aeV p q r) 0 11):=aky p q r
theorem aeL{X:b8}{a:Nat}{z:D}(h:aw (gd X a) (gd X (a+1))=true)(hz:ltI 0 (z.rows.length:Int)=true):ah (gd (aa (sub X a 3) (.i (z.rows.length:Int))) 4).int z.rows.length=true:=by have hz:0<(z.rows.length:Int):=i7 hz;obtain⟨h1,y⟩:=qO (q:=.i (z.rows.length:Int)) h;rw[aA] at y;simp only[ah,a9,g5];omega
theorem alo{z:D}(hz:ltI 0 (z.rows.length:Int)=true):ah 0 z.rows.length=true:=by have hz:0<(z.rows.length:Int):=i7 hz;simp only[ah,a9,g5];omega
theorem amY{b:Bool}(h:(!b)=false):b=true:=by
 cases b with
 | true=>rfl
 | false=>cases h
theorem afg{X:b8}{a:Nat}{s:b8}{x:D}(h:aw (gd X a) (gd X (a+1))=true)(y:leI ((gd s 4).rows.length:Int) 1000000=true):aw (gd (dv (sub X a 3) s x) 1) (gd (dv (sub X a 3) s x) 2)=true:=(uw (p:=sub X a 3) (dp h y)).1
theorem DV{X:b8}{a:Nat}(h:aw (gd X a) (gd X (a+1))=true):aw (gd (aE (sub X a 3)) 1) (gd (aE (sub X a 3)) 2)=true:=(rF (p:=sub X a 3) h).1
theorem amS(N:Nat)(p q y l:b8)(k:Nat)(hk:k<120)(J:(gd l 7).int<=120)(U:(gd l 8).int=(k:Int))(hc:aw (gd l 15) (gd l 16)=true)(O:SmS 5000 (sub l 27 9))(M:SmS 5000 (sub l 36 9)):GG (fun c x=>(c=0/\k<120/\ShI (k+1) x)\/(c≠0/\c=2/\aw (gd x 9) (gd x 10)=true/\SmS 5000 (sub x 21 9))) (cY N p q y (nx l)):=by
 have hw:w64 ((gd l 8).int+1)=((k+1:Nat):Int):=by rw[bD (by omega) (by omega)];omega
 exact bt (fun _=>bc (.inl ⟨rfl,hk,ar _,hc,hw,J,M,Nat.succ_le_of_lt hk⟩)) (fun _=>bc (.inl ⟨rfl,hk,ar _,hc,hw,J,O,Nat.succ_le_of_lt hk⟩))
theorem ana(N:Nat)(p q y l:b8)(k:Nat)(hk:k<120)(J:(gd l 7).int<=120)(U:(gd l 8).int=(k:Int))(hc:aw (gd l 16) (gd l 17)=true)(O:SmS 5000 (sub l 28 9))(M:SmS 5000 (sub l 37 9)):GG (fun c x=>(c=0/\k<120/\ShI (k+1) x)\/(c≠0/\c=2/\aw (gd x 9) (gd x 10)=true/\SmS 5000 (sub x 21 9))) (dR N p q y (nx l)):=by
 have hw:w64 ((gd l 8).int+1)=((k+1:Nat):Int):=by rw[bD (by omega) (by omega)];omega
 exact bt (fun _=>bc (.inl ⟨rfl,hk,ar _,hc,hw,J,M,Nat.succ_le_of_lt hk⟩)) (fun _=>bc (.inl ⟨rfl,hk,ar _,hc,hw,J,O,Nat.succ_le_of_lt hk⟩))
theorem amT(N:Nat)(p q y l:b8)(k:Nat)(hk:k<120)(J:(gd l 7).int<=120)(U:(gd l 8).int=(k:Int))(hc:aw (gd l 18) (gd l 19)=true)(O:SmS 5000 (sub l 30 9))(M:SmS 5000 (sub l 39 9)):GG (fun c x=>(c=0/\k<120/\ShI (k+1) x)\/(c≠0/\c=2/\aw (gd x 9) (gd x 10)=true/\SmS 5000 (sub x 21 9))) (kG N p q y (nx l)):=by
 have hw:w64 ((gd l 8).int+1)=((k+1:Nat):Int):=by rw[bD (by omega) (by omega)];omega
 exact bt (fun _=>bc (.inl ⟨rfl,hk,ar _,hc,hw,J,M,Nat.succ_le_of_lt hk⟩)) (fun _=>bc (.inl ⟨rfl,hk,ar _,hc,hw,J,O,Nat.succ_le_of_lt hk⟩))
theorem amR(N:Nat)(p q y l:b8)(k:Nat)(hk:k<120)(M:(gd l 7).int<=120)(J:(gd l 8).int=(k:Int))(hc:aw (gd l 18) (gd l 19)=true)(U:SmS 5000 (sub l 30 9)):GG (fun c x=>(c=0/\k<120/\ShI (k+1) x)\/(c≠0/\c=2/\aw (gd x 9) (gd x 10)=true/\SmS 5000 (sub x 21 9))) (fX N p q y (nx l)):=by have O:aw (gd (af (sub l 18 3) (.i 3)) 1) (gd (af (sub l 18 3) (.i 3)) 2)=true:=cx hc;refine gjs (K:=kG N p q y) (lF (dp hc rfl) (lF (dp (dp hc rfl) (bn _)) (rv (amT N p q y _ k hk M J O U ?_))));exact uJ rfl
theorem amP(N:Nat)(p q y l:b8)(k:Nat)(hk:k<120)(J:(gd l 7).int<=120)(U:(gd l 8).int=(k:Int))(hc:aw (gd l 18) (gd l 19)=true)(O:SmS 5000 (sub l 30 9))(M:SmS 5000 (sub l 39 9)):GG (fun c x=>(c=0/\k<120/\ShI (k+1) x)\/(c≠0/\c=2/\aw (gd x 9) (gd x 10)=true/\SmS 5000 (sub x 21 9))) (da N p q y (nx l)):=by
 have hw:w64 ((gd l 8).int+1)=((k+1:Nat):Int):=by rw[bD (by omega) (by omega)];omega
 exact bt (fun _=>bc (.inl ⟨rfl,hk,ar _,hc,hw,J,M,Nat.succ_le_of_lt hk⟩)) (fun _=>bc (.inl ⟨rfl,hk,ar _,hc,hw,J,O,Nat.succ_le_of_lt hk⟩))
theorem amQ(N:Nat)(p q y l:b8)(k:Nat)(hk:k<120)(J:(gd l 7).int<=120)(U:(gd l 8).int=(k:Int))(hc:aw (gd l 18) (gd l 19)=true)(O:SmS 5000 (sub l 30 9))(M:SmS 5000 (sub l 39 9)):GG (fun c x=>(c=0/\k<120/\ShI (k+1) x)\/(c≠0/\c=2/\aw (gd x 9) (gd x 10)=true/\SmS 5000 (sub x 21 9))) (kF N p q y (nx l)):=by
 have hw:w64 ((gd l 8).int+1)=((k+1:Nat):Int):=by rw[bD (by omega) (by omega)];omega
 exact bt (fun _=>bc (.inl ⟨rfl,hk,ar _,hc,hw,J,M,Nat.succ_le_of_lt hk⟩)) (fun _=>bc (.inl ⟨rfl,hk,ar _,hc,hw,J,O,Nat.succ_le_of_lt hk⟩))
theorem dsN{l:b8}{k:Nat}{z:D}(hk:k<120)(M:(gd l 7).int<=120)(hz:z.int=(k:Int))(y:(gd l 8).int=w64 (z.int+1))(J:l=sub l 0 30)(hc:aw (gd l 9) (gd l 10)=true)(O:SmS 5000 (sub l 21 9)):GG (fun c x=>(c=0/\k<120/\ShI (k+1) x)\/(c≠0/\c=2/\aw (gd x 9) (gd x 10)=true/\SmS 5000 (sub x 21 9))) (nx l):=by
 have hw:(gd l 8).int=((k+1:Nat):Int):=by rw[y,bD (by omega) (by omega)];omega
 exact bc (.inl ⟨rfl,hk,J,hc,hw,M,O,Nat.succ_le_of_lt hk⟩)
theorem ani(x l:b8)(k:Nat)(h:x.length<=k):gd (x++l) k=gd l (k - x.length):=by unfold gd;rw[g4,g4,C3 h]
theorem anj(x l:b8)(k:Nat)(h:k<x.length):gd (x++l) k=gd x k:=by unfold gd;rw[g4,g4,z9 h]
theorem anh(p:b8):∀(n a:Nat),(sub p a n).length=n
 | 0,_=>rfl
 | n+1,a=>congrArg (· + 1) (anh p n (a+1))
set_option maxHeartbeats 8000000 in
theorem Ee(p q:b8)(st:b8)(e:st=sub st 0 30)(hc:aw (gd st 9) (gd st 10)=true)(hi:(gd st 8).int=0)(J:(gd st 7).int<=120)(hS:SmS 5000 (sub st 21 9)) :
  GG (fun c l=>c=2/\aw (gd l 9) (gd l 10)=true/\SmS 5000 (sub l 21 9)) (aX (jP 122 p q) 122 st):=by
 refine ir (I:=ShI) 120 (fun k s hs=>?_) 122 0 st ⟨e,hc,hi,J,hS,n5 _⟩ (by decide) (n5 _);obtain⟨e,hc,hi,J,hS,hk⟩:=hs;have y:ltI (gd s 8).int (gd s 7).int=true->k<120:=fun O=>by have O:(gd s 8).int<(gd s 7).int:=i7 O;omega
 have U:leI ((gd s 25).rows.length:Int) 1000000=true:=bi (by have:(gd s 25).rows.length<=5000:=hS.2.2.2.1;omega);have b0:leI ((gd (sub s 21 9) 4).rows.length:Int) 1000000=true:=U;refine grd e (geq (HU _ _ _ s) (bt (fun M=>gnd ?_ (gnd ?_ (bt (fun c2=>gjs (K:=cY _ _ _ _) (lF ?_ (lF ?_ (rv ?_)))) (fun c2=>bt (fun c3=>gjs (K:=cY _ _ _ _) (lF ?_ (lF ?_ (rv ?_)))) (fun c3=>bt (fun c4=>gjs (K:=cY _ _ _ _) (lF ?_ (lF ?_ (rv ?_)))) (fun c4=>bt (fun c5=>gjs (K:=cY _ _ _ _) (lF ?_ (lF ?_ (rv ?_)))) (fun c5=>bt (fun c6=>gjs (K:=dR _ _ _ _) (lF ?_ (acA ?_ (rv ?_)))) (fun c6=>bt (fun c7=>gjs (K:=dR _ _ _ _) (lF ?_ (acA ?_ (rv ?_)))) (fun c7=>bt (fun c8=>gjs (K:=dR _ _ _ _) (lF ?_ (acA ?_ (rv ?_)))) (fun c8=>bt (fun c9=>bt (fun a1=>gnd ?_ (bt (fun Z=>gjs (K:=fX _ _ _ _) (lF ?_ (lF ?_ (lF ?_ (rv ?_))))) (fun Z=>gjs (K:=da _ _ _ _) (lF ?_ (lF ?_ (rv ?_)))))) (fun a1=>gjs (K:=da _ _ _ _) (lF ?_ (lF ?_ (rv ?_))))) (fun c9=>bt (fun V=>bt (fun a3=>gnd ?_ (bt (fun Y=>gjs (K:=fX _ _ _ _) (lF ?_ (lF ?_ (lF ?_ (rv ?_))))) (fun Y=>gjs (K:=da _ _ _ _) (lF ?_ (lF ?_ (rv ?_)))))) (fun a3=>gjs (K:=da _ _ _ _) (lF ?_ (lF ?_ (rv ?_))))) (fun V=>bt (fun a0=>gjs (K:=kF _ _ _ _) (lF ?_ (acA ?_ (rv ?_)))) (fun a0=>bt (fun a7=>bt (fun W=>gnd ?_ (gnd ?_ (gnd ?_ (bt (fun a5=>gnd ?_ (gnd ?_ (bt (fun a2=>?_) (fun a2=>?_)))) (fun a5=>bt (fun a8=>?_) (fun a8=>?_)))))) (fun W=>bt (fun a4=>?_) (fun a4=>?_))) (fun a7=>gnd ?_ (bt (fun a6=>?_) (fun a6=>?_)))))))))))))))) (fun M=>bc (.inr ⟨by decide,rfl,hc,hS⟩))))
 all_goals first
  | (refine amS _ _ _ _ _ k (y M) J hi ?_ hS ?_)
  | (refine ana _ _ _ _ _ k (y M) J hi ?_ hS ?_)
  | (refine amR _ _ _ _ _ k (y M) J hi ?_ hS)
  | (refine amP _ _ _ _ _ k (y M) J hi ?_ hS ?_)
  | (refine amQ _ _ _ _ _ k (y M) J hi ?_ hS ?_)
  | (refine dsN (y M) J hi rfl rfl ?_ ?_)
  | skip
 all_goals clear e
 all_goals first
  | exact afv
  | (exact rfl)
  | (simp (maxDischargeDepth:=30) only [ani,anj,anh,D8,z8,Nat.reduceLeDiff,Nat.reduceLT,Nat.reduceSub,bU,ch,cx,dg,XI,SY,afg,DV,aeL,alo,U,bn,aq,ap,Nat.reduceAdd,u5,E6,ac,nj,mX,dA,dz,cQ,bz,dx,bJ,bH,cF,gC,lC,cd,cC,dJ,ev,aH,dl,aB,gA,hc, *];done)
  | (exact vQ (Of rfl))
  | (exact vQ (uJ rfl))
  | (exact vQ (ajH _ _ _ _))
  | (exact vQ (afJ _ _ _))
  | (exact vQ (LV rfl))
  | (exact vQ (Mj rfl))
  | (exact vQ (Ef afv))
  | (exact hS)
@[irreducible] def ae(p:b8)(q:D):b8:=sub (iH (122) p [q]).pay 0 13
theorem rZ(p q:b8)(h:(aw (gd p 0) (gd p 1)&&(leI 0 (gd q 0).int&&leI (gd q 0).int 100))=true):GG (fun c l=>c=1/\l=sub l 0 13/\(aw (gd l 1) (gd l 2)=true/\SmS 5000 (sub l 4 9))) (iH (122) p q):=by
 simp only[a9] at h;obtain⟨h,O,W⟩:=h;have O:0<=(gd q 0).int:=i7 O;have W:(gd q 0).int<=100:=i7 W;have hw:w64 ((gd q 0).int+1)=(gd q 0).int+1:=bD (by omega) (by omega);refine gnd h (gjn (K:=ur 122 p q) (fun l=>aw (gd l 5) (gd l 6)=true/\Hx (gd l 3)=true/\gd l 1=gd q 0) (bt (fun _=>bc ⟨rfl,cx h,alO _,rfl⟩) (fun _=>bc ⟨rfl,cx h,alf _ _,rfl⟩)) ?_);rintro l ⟨h1,U,M⟩;have Y:aw (gd (aa (sub l 5 3) (.i 4)) 1) (gd (aa (sub l 5 3) (.i 4)) 2)=true:=bU h1;have y:aw (gd (af (sub (aa (sub l 5 3) (.i 4)) 1 3) (.i 3)) 1) (gd (af (sub (aa (sub l 5 3) (.i 4)) 1 3) (.i 3)) 2)=true:=cx Y;have hS:SmS 5000 (jG (gd (aa (sub l 5 3) (.i 4)) 4) (gd l 3)):=Rb U;refine gnd rfl (gnd h1 (gnd U (gnd Y (gjn (K:=uq 122 p q) (fun m=>aw (gd m 7) (gd m 8)=true/\gd m 1=gd q 0/\SmS 5000 (sub m 19 9)) (bt (fun _=>gnd y (bt (fun _=>bc ⟨rfl,DV y,M,hS.1,hS.2.1,n5 _,hS.2.2.2⟩) (fun hk=>bc ⟨rfl,DV y,M,?_⟩))) (fun _=>bc ⟨rfl,y,M,hS⟩)) ?_))))
 ·have hk:=AX (amY hk);exact AG hk (by decide)
 rintro m ⟨J,V,g3⟩;have hb:(gd (aa (sub m 7 3) (.i (w64 ((gd m 1).int+1)))) 4).int<=120:=by obtain⟨b1,b2⟩:=qO (q:=.i (w64 ((gd m 1).int+1))) J;rw[V,hw,aA] at b2;rw[V,hw];omega
 refine gnd rfl (gnd J (git (K:=mV 122 p q) (c:=2) (fun l=>aw (gd l 9) (gd l 10)=true/\SmS 5000 (sub l 21 9)) (Ee p q _ (ar _) (bU J) rfl hb g3) ?_));rintro l ⟨Z,k2⟩;exact bc ⟨rfl,ar _,Z,k2⟩
theorem ua{p:b8}{q:D}(h:(aw (gd p 0) (gd p 1)&&(leI 0 q.int&&leI q.int 100))=true):aw (gd (ae p q) 1) (gd (ae p q) 2)=true/\SmS 5000 (sub (ae p q) 4 9):=by unfold ae;exact (cH (rZ p [q] h)).2
theorem Im(N:Nat)(p q:b8):iH N p q=iH N p [gd q 0]:=by kernel_rfl
def wG:Ent:=(133,e2 (.tup [.agg f4]) ri fun p q=>(⟨.tup [.agg [.any],.agg f4,.agg d9],ae p (gd q 0)⟩,aw (gd p 0) (gd p 1)&&(leI 0 (gd q 0).int&&leI (gd q 0).int 100)))
theorem Fm:ay f8 wG:=bm fun p q h=>cN (N:=122) (ks:=fE) (key:=bo) (al (fC ⟨gz,fC ⟨cZ,fC ⟨Pe,fC ⟨kP,fC ⟨wF,fC ⟨jR,fC ⟨tO,fC ⟨Kt,fC ⟨rK,fC ⟨ql,fC ⟨Gm,fC ⟨Gu,fC ⟨Lb,fC ⟨KC,fC ⟨CD,fC ⟨BH,fN⟩⟩⟩⟩⟩⟩⟩⟩⟩⟩⟩⟩⟩⟩⟩⟩)) (cB Tryz.func133) Tryz.func133 fun hw y=>by rw[FH];exact congrArg (fun x=>some (bo,x)) (((Im _ p q).trans (cH (rZ p [gd q 0] h)).1).trans (by unfold ae;exact rfl))
abbrev Aq:=find [wG,dI,ip,uE,AV,AB,jx,up]
abbrev Az:=[0,1,4,5,10,11,17,22,27,32,37,49,57,65]
def sq(N:Nat)(p q:b8):List b8:= [[.i 0],[.l ((gd (ae (sub p 0 3) (gd q 0)) 9).rows ++ [[gd (aa (sub (aa (sub (ae (sub p 0 3) (gd q 0)) 1 3) (.i 40)) 1 3) (.i 9)) 4,gd (aE (sub (aa (sub (aa (sub (ae (sub p 0 3) (gd q 0)) 1 3) (.i 40)) 1 3) (.i 9)) 1 3)) 4]])],[.l [[gd (aa (sub (aa (sub (ae (sub p 0 3) (gd q 0)) 1 3) (.i 40)) 1 3) (.i 9)) 4,gd (aE (sub (aa (sub (aa (sub (ae (sub p 0 3) (gd q 0)) 1 3) (.i 40)) 1 3) (.i 9)) 1 3)) 4]]],[gd (aa (sub (aa (sub (ae (sub p 0 3) (gd q 0)) 1 3) (.i 40)) 1 3) (.i 9)) 4,gd (aE (sub (aa (sub (aa (sub (ae (sub p 0 3) (gd q 0)) 1 3) (.i 40)) 1 3) (.i 9)) 1 3)) 4],[gd (aE (sub (aa (sub (aa (sub (ae (sub p 0 3) (gd q 0)) 1 3) (.i 40)) 1 3) (.i 9)) 1 3)) 4],[gd (aa (sub (aa (sub (ae (sub p 0 3) (gd q 0)) 1 3) (.i 40)) 1 3) (.i 9)) 4],[gd (ae (sub p 0 3) (gd q 0)) 9],[.i 0],[.i 0],[.i 0],[.i 0],q,[.i 0],[.i 0],[gd (aa (sub (ae (sub p 0 3) (gd q 0)) 1 3) (.i 40)) 4],[.b ((gd (aa (sub (ae (sub p 0 3) (gd q 0)) 1 3) (.i 40)) 4).int==0)],[.b ((gd (aa (sub (ae (sub p 0 3) (gd q 0)) 1 3) (.i 40)) 4).int==1)],[.b ((gd (aa (sub (ae (sub p 0 3) (gd q 0)) 1 3) (.i 40)) 4).int==2)],[.b ((gd (aa (sub (ae (sub p 0 3) (gd q 0)) 1 3) (.i 40)) 4).int==3)],[.b ((gd (aa (sub (ae (sub p 0 3) (gd q 0)) 1 3) (.i 40)) 4).int==4)],[.b ((gd (aa (sub (ae (sub p 0 3) (gd q 0)) 1 3) (.i 40)) 4).int==5)],[gd (aE (sub (aa (sub (aa (sub (ae (sub p 0 3) (gd q 0)) 1 3) (.i 40)) 1 3) (.i 9)) 1 3)) 1,gd (aE (sub (aa (sub (aa (sub (ae (sub p 0 3) (gd q 0)) 1 3) (.i 40)) 1 3) (.i 9)) 1 3)) 2,gd (aE (sub (aa (sub (aa (sub (ae (sub p 0 3) (gd q 0)) 1 3) (.i 40)) 1 3) (.i 9)) 1 3)) 3],[.i 0,.l [],.l [],.l [],.l [],.l [],.l [],.l [],.i 0],[gd (ae (sub p 0 3) (gd q 0)) 4,gd (ae (sub p 0 3) (gd q 0)) 5,gd (ae (sub p 0 3) (gd q 0)) 6,gd (ae (sub p 0 3) (gd q 0)) 7,gd (ae (sub p 0 3) (gd q 0)) 8,.l ((gd (ae (sub p 0 3) (gd q 0)) 9).rows ++ [[gd (aa (sub (aa (sub (ae (sub p 0 3) (gd q 0)) 1 3) (.i 40)) 1 3) (.i 9)) 4,gd (aE (sub (aa (sub (aa (sub (ae (sub p 0 3) (gd q 0)) 1 3) (.i 40)) 1 3) (.i 9)) 1 3)) 4]]),gd (ae (sub p 0 3) (gd q 0)) 10,gd (ae (sub p 0 3) (gd q 0)) 11,gd (ae (sub p 0 3) (gd q 0)) 12]]
def sj(N:Nat)(p q:b8):List b8:= [[.i 0],[bQ (gd (ae (sub p 0 3) (gd q 0)) 10) (gd (aa (sub (aa (sub (ae (sub p 0 3) (gd q 0)) 1 3) (.i 40)) 1 3) (.i 10)) 4)],[gd (aa (sub (aa (sub (ae (sub p 0 3) (gd q 0)) 1 3) (.i 40)) 1 3) (.i 10)) 4],[gd (ae (sub p 0 3) (gd q 0)) 10],[.i 0],[.i 0],[.i 0],q,[.i 0],[.i 0],[gd (aa (sub (ae (sub p 0 3) (gd q 0)) 1 3) (.i 40)) 4],[.b ((gd (aa (sub (ae (sub p 0 3) (gd q 0)) 1 3) (.i 40)) 4).int==0)],[.b ((gd (aa (sub (ae (sub p 0 3) (gd q 0)) 1 3) (.i 40)) 4).int==1)],[.b ((gd (aa (sub (ae (sub p 0 3) (gd q 0)) 1 3) (.i 40)) 4).int==2)],[.b ((gd (aa (sub (ae (sub p 0 3) (gd q 0)) 1 3) (.i 40)) 4).int==3)],[.b ((gd (aa (sub (ae (sub p 0 3) (gd q 0)) 1 3) (.i 40)) 4).int==4)],[.b ((gd (aa (sub (ae (sub p 0 3) (gd q 0)) 1 3) (.i 40)) 4).int==5)],[.b ((gd (aa (sub (ae (sub p 0 3) (gd q 0)) 1 3) (.i 40)) 4).int==6)],[gd (aa (sub (aa (sub (ae (sub p 0 3) (gd q 0)) 1 3) (.i 40)) 1 3) (.i 10)) 1,gd (aa (sub (aa (sub (ae (sub p 0 3) (gd q 0)) 1 3) (.i 40)) 1 3) (.i 10)) 2,gd (aa (sub (aa (sub (ae (sub p 0 3) (gd q 0)) 1 3) (.i 40)) 1 3) (.i 10)) 3],[.i 0,.l [],.l [],.l [],.l [],.l [],.l [],.l [],.i 0],[gd (ae (sub p 0 3) (gd q 0)) 4,gd (ae (sub p 0 3) (gd q 0)) 5,gd (ae (sub p 0 3) (gd q 0)) 6,gd (ae (sub p 0 3) (gd q 0)) 7,gd (ae (sub p 0 3) (gd q 0)) 8,gd (ae (sub p 0 3) (gd q 0)) 9,bQ (gd (ae (sub p 0 3) (gd q 0)) 10) (gd (aa (sub (aa (sub (ae (sub p 0 3) (gd q 0)) 1 3) (.i 40)) 1 3) (.i 10)) 4),gd (ae (sub p 0 3) (gd q 0)) 11,gd (ae (sub p 0 3) (gd q 0)) 12]]
def sk(N:Nat)(p q:b8):List b8:= [[.i 0],[bQ (gd (ae (sub p 0 3) (gd q 0)) 11) (gd (aa (sub (aa (sub (ae (sub p 0 3) (gd q 0)) 1 3) (.i 40)) 1 3) (.i 10)) 4)],[gd (aa (sub (aa (sub (ae (sub p 0 3) (gd q 0)) 1 3) (.i 40)) 1 3) (.i 10)) 4],[gd (ae (sub p 0 3) (gd q 0)) 11],[.i 0],[.i 0],[.i 0],q,[.i 0],[.i 0],[gd (aa (sub (ae (sub p 0 3) (gd q 0)) 1 3) (.i 40)) 4],[.b ((gd (aa (sub (ae (sub p 0 3) (gd q 0)) 1 3) (.i 40)) 4).int==0)],[.b ((gd (aa (sub (ae (sub p 0 3) (gd q 0)) 1 3) (.i 40)) 4).int==1)],[.b ((gd (aa (sub (ae (sub p 0 3) (gd q 0)) 1 3) (.i 40)) 4).int==2)],[.b ((gd (aa (sub (ae (sub p 0 3) (gd q 0)) 1 3) (.i 40)) 4).int==3)],[.b ((gd (aa (sub (ae (sub p 0 3) (gd q 0)) 1 3) (.i 40)) 4).int==4)],[.b ((gd (aa (sub (ae (sub p 0 3) (gd q 0)) 1 3) (.i 40)) 4).int==5)],[.b ((gd (aa (sub (ae (sub p 0 3) (gd q 0)) 1 3) (.i 40)) 4).int==6)],[.b ((gd (aa (sub (ae (sub p 0 3) (gd q 0)) 1 3) (.i 40)) 4).int==7)],[gd (aa (sub (aa (sub (ae (sub p 0 3) (gd q 0)) 1 3) (.i 40)) 1 3) (.i 10)) 1,gd (aa (sub (aa (sub (ae (sub p 0 3) (gd q 0)) 1 3) (.i 40)) 1 3) (.i 10)) 2,gd (aa (sub (aa (sub (ae (sub p 0 3) (gd q 0)) 1 3) (.i 40)) 1 3) (.i 10)) 3],[.i 0,.l [],.l [],.l [],.l [],.l [],.l [],.l [],.i 0],[gd (ae (sub p 0 3) (gd q 0)) 4,gd (ae (sub p 0 3) (gd q 0)) 5,gd (ae (sub p 0 3) (gd q 0)) 6,gd (ae (sub p 0 3) (gd q 0)) 7,gd (ae (sub p 0 3) (gd q 0)) 8,gd (ae (sub p 0 3) (gd q 0)) 9,gd (ae (sub p 0 3) (gd q 0)) 10,bQ (gd (ae (sub p 0 3) (gd q 0)) 11) (gd (aa (sub (aa (sub (ae (sub p 0 3) (gd q 0)) 1 3) (.i 40)) 1 3) (.i 10)) 4),gd (ae (sub p 0 3) (gd q 0)) 12]]
def ai(p q:b8):b8:=aa (sub (ae (sub p 0 3) (gd q 0)) 1 3) (.i 40)
def LF(p q:b8):b8:=bZ (sub (ai p q) 1 3) (.l [[.i (-1)],[.i 4]])
def gU(p q:b8):b8:=aE (sub (aa (sub (ai p q) 1 3) (.i 9)) 1 3)
def lr(p q:b8):b8:=bZ (sub (ai p q) 1 3) (.l [[.i (-1)],[.i 1000000],[.i 1000001]])
def gP(N:Nat)(p q:b8):Out:=
 nd (aw (gd p 0) (gd p 1)&&(leI 0 (gd q 0).int&&leI (gd q 0).int 100)) (nd (aw (gd (ae (sub p 0 3) (gd q 0)) 1) (gd (ae (sub p 0 3) (gd q 0)) 2)) (bif (gd (ai p q) 4).int==0 then nd (aw (gd (ai p q) 1) (gd (ai p q) 2)&&xA (.l [[.i (-1)],[.i 4]])) (some (1,[.i 0]++(sub (LF p q) 1 4++sub (ae (sub p 0 3) (gd q 0)) 5 8)))
 else bif (gd (ai p q) 4).int==1 then nd (aw (gd (ai p q) 1) (gd (ai p q) 2)&&(leI 0 4&&leI 4 100)) (some (1,[.i 0,gd (bX (sub (ai p q) 1 3) (.i 4)) 1,gd (bX (sub (ai p q) 1 3) (.i 4)) 2,gd (bX (sub (ai p q) 1 3) (.i 4)) 3,gd (ae (sub p 0 3) (gd q 0)) 4,gd (bX (sub (ai p q) 1 3) (.i 4)) 4]++sub (ae (sub p 0 3) (gd q 0)) 6 7))
 else bif (gd (ai p q) 4).int==2 then nd (aw (gd (ai p q) 1) (gd (ai p q) 2)&&(leI 0 2&&leI 2 100)) (some (1,[.i 0,gd (bX (sub (ai p q) 1 3) (.i 2)) 1,gd (bX (sub (ai p q) 1 3) (.i 2)) 2,gd (bX (sub (ai p q) 1 3) (.i 2)) 3,gd (ae (sub p 0 3) (gd q 0)) 4,gd (ae (sub p 0 3) (gd q 0)) 5,gd (bX (sub (ai p q) 1 3) (.i 2)) 4]++sub (ae (sub p 0 3) (gd q 0)) 7 6))
 else bif (gd (ai p q) 4).int==3 then nd (aw (gd (ai p q) 1) (gd (ai p q) 2)&&(leI 0 9&&leI 9 100)) (some (1,[.i 0,gd (ej (sub (ai p q) 1 3) (.i 9)) 1,gd (ej (sub (ai p q) 1 3) (.i 9)) 2,gd (ej (sub (ai p q) 1 3) (.i 9)) 3,gd (ae (sub p 0 3) (gd q 0)) 4,gd (ae (sub p 0 3) (gd q 0)) 5,gd (ae (sub p 0 3) (gd q 0)) 6,gd (ej (sub (ai p q) 1 3) (.i 9)) 4]++sub (ae (sub p 0 3) (gd q 0)) 8 5))
 else bif (gd (ai p q) 4).int==4 then nd (aw (gd (ai p q) 1) (gd (ai p q) 2)&&(leI 0 5&&leI 5 100)) (some (1,[.i 0,gd (ek (sub (ai p q) 1 3) (.i 5)) 1,gd (ek (sub (ai p q) 1 3) (.i 5)) 2,gd (ek (sub (ai p q) 1 3) (.i 5)) 3]++(sub (ae (sub p 0 3) (gd q 0)) 4 4++([gd (ek (sub (ai p q) 1 3) (.i 5)) 4]++sub (ae (sub p 0 3) (gd q 0)) 9 4))))
 else bif (gd (ai p q) 4).int==5 then nd ((aw (gd (ai p q) 1) (gd (ai p q) 2))&&((aw (gd (aa (sub (ai p q) 1 3) (.i 9)) 1) (gd (aa (sub (ai p q) 1 3) (.i 9)) 2))&&((bl ((gd (ae (sub p 0 3) (gd q 0)) 9).rows ++ [[gd (aa (sub (ai p q) 1 3) (.i 9)) 4,gd (gU p q) 4]])&&true)&&true))) (ndN 4 (((aw (gd (ai p q) 1) (gd (ai p q) 2))&&((aw (gd (aa (sub (ai p q) 1 3) (.i 9)) 1) (gd (aa (sub (ai p q) 1 3) (.i 9)) 2))&&((bl ((gd (ae (sub p 0 3) (gd q 0)) 9).rows ++ [[gd (aa (sub (ai p q) 1 3) (.i 9)) 4,gd (gU p q) 4]])&&true)&&true)))&&(em (sq N p q) (sq N p q))) (some (1,[.i 0,gd (gU p q) 1,gd (gU p q) 2,gd (gU p q) 3]++(sub (ae (sub p 0 3) (gd q 0)) 4 5++([.l ((gd (ae (sub p 0 3) (gd q 0)) 9).rows ++ [[gd (aa (sub (ai p q) 1 3) (.i 9)) 4,gd (gU p q) 4]]),gd (ae (sub p 0 3) (gd q 0)) 10,gd (ae (sub p 0 3) (gd q 0)) 11,gd (ae (sub p 0 3) (gd q 0)) 12])))))
 else bif (gd (ai p q) 4).int==6 then nd ((aw (gd (ai p q) 1) (gd (ai p q) 2))&&((leI ((gd (ae (sub p 0 3) (gd q 0)) 10).rows.length:Int) 1000000000)&&true)) (nd (((aw (gd (ai p q) 1) (gd (ai p q) 2))&&((leI ((gd (ae (sub p 0 3) (gd q 0)) 10).rows.length:Int) 1000000000)&&true))&&(em (sj N p q) (sj N p q))) (some (1,[.i 0,gd (aa (sub (ai p q) 1 3) (.i 10)) 1,gd (aa (sub (ai p q) 1 3) (.i 10)) 2,gd (aa (sub (ai p q) 1 3) (.i 10)) 3]++(sub (ae (sub p 0 3) (gd q 0)) 4 6 ++ [bQ (gd (ae (sub p 0 3) (gd q 0)) 10) (gd (aa (sub (ai p q) 1 3) (.i 10)) 4),gd (ae (sub p 0 3) (gd q 0)) 11,gd (ae (sub p 0 3) (gd q 0)) 12]))))
 else bif (gd (ai p q) 4).int==7 then nd ((aw (gd (ai p q) 1) (gd (ai p q) 2))&&((leI ((gd (ae (sub p 0 3) (gd q 0)) 11).rows.length:Int) 1000000000)&&true)) (nd (((aw (gd (ai p q) 1) (gd (ai p q) 2))&&((leI ((gd (ae (sub p 0 3) (gd q 0)) 11).rows.length:Int) 1000000000)&&true))&&(em (sk N p q) (sk N p q))) (some (1,[.i 0,gd (aa (sub (ai p q) 1 3) (.i 10)) 1,gd (aa (sub (ai p q) 1 3) (.i 10)) 2,gd (aa (sub (ai p q) 1 3) (.i 10)) 3]++(sub (ae (sub p 0 3) (gd q 0)) 4 7 ++ [bQ (gd (ae (sub p 0 3) (gd q 0)) 11) (gd (aa (sub (ai p q) 1 3) (.i 10)) 4),gd (ae (sub p 0 3) (gd q 0)) 12]))))
 else bif (gd (ai p q) 4).int==8 then nd (aw (gd (ai p q) 1) (gd (ai p q) 2)&&xA (.l [[.i (-1)],[.i 1000000],[.i 1000001]])) (some (1,[.i 0,gd (lr p q) 1,gd (lr p q) 2,gd (lr p q) 3]++(sub (ae (sub p 0 3) (gd q 0)) 4 8 ++ [gd (lr p q) 4])))
 else some (1,[.i 0,gd (ai p q) 1,gd (ai p q) 2,gd (ai p q) 3]++sub (ae (sub p 0 3) (gd q 0)) 4 9)))
theorem Kk(N:Nat)(p q:b8):jT f8 Aq N Az Tryz.f168 (.tup [.agg [.any],.agg f4,.agg d9]) [⟨.tup [.agg f4],p⟩,⟨ri,q⟩]=some (bo,gP N p q):=by kernel_rfl
theorem akx{l:List b8}{r:b8}(h:l.length<=5000):(l ++ [r]).length<=6000:=by rw[i6,n9];omega
@[irreducible] def cV(p:b8)(q:D):b8:=sub (gP (0) p [q]).pay 0 13
theorem wT(p q:b8)(h:(aw (gd p 0) (gd p 1)&&(leI 0 (gd q 0).int&&leI (gd q 0).int 100))=true):GG (fun c l=>c=1/\l=sub l 0 13/\(aw (gd l 1) (gd l 2)=true/\SmS 6000 (sub l 4 9))) (gP (0) p q):=by
 have h0:(aw (gd p 0) (gd p 1)&&(leI 0 (gd q 0).int&&leI (gd q 0).int 100))=true:=h;have hl:=(ua (p:=sub p 0 3) (q:=gd q 0) h0).2;have hc:aw (gd (ae (sub p 0 3) (gd q 0)) 1) (gd (ae (sub p 0 3) (gd q 0)) 2)=true:=(ua (p:=sub p 0 3) (q:=gd q 0) h0).1;have y:aw (gd (ai p q) 1) (gd (ai p q) 2)=true:=bU hc;have M:5000<=6000:=by decide
 have u2:200<=6000:=by decide
 obtain⟨t1,t2,t3,t4,t5,t6,t7,t8⟩:=hl;have Y:=m8 t1 M;have W:=m8 t2 M;have s3:=m8 t3 M;have U:=m8 t4 M;have Z:=m8 t5 M;have O:=m8 t6 M;have V:=m8 t7 M;have J:∀r∈(gd (ae (sub p 0 3) (gd q 0)) 9).rows,(gd r 1).rows.length<=6000:=fun r hr=>m8 (t8 r hr) M
 have t5:(gd (ae (sub p 0 3) (gd q 0)) 9).rows.length<=5000:=t5;have t6:(gd (ae (sub p 0 3) (gd q 0)) 10).rows.length<=5000:=t6;have t7:(gd (ae (sub p 0 3) (gd q 0)) 11).rows.length<=5000:=t7;have hw:=rF (p:=sub (aa (sub (ai p q) 1 3) (.i 9)) 1 3) (bU y);have w6:=jq (gd (ae (sub p 0 3) (gd q 0)) 10) (gd (aa (sub (ai p q) 1 3) (.i 10)) 4);have w7:=jq (gd (ae (sub p 0 3) (gd q 0)) 11) (gd (aa (sub (ai p q) 1 3) (.i 10)) 4);have hL:∀r:b8,(bl ((gd (ae (sub p 0 3) (gd q 0)) 9).rows ++ [r])&&true)=true:=fun r=>dQ (by omega)
 have h6:(leI ((gd (ae (sub p 0 3) (gd q 0)) 10).rows.length:Int) 1000000000)=true:=bi (by omega);have h7:(leI ((gd (ae (sub p 0 3) (gd q 0)) 11).rows.length:Int) 1000000000)=true:=bi (by omega);unfold gP;refine gnd ?_ (gnd ?_ (bt (fun c1=>gnd ?_ (bc ⟨rfl,ar _,?_,?_⟩)) (fun c1=>bt (fun c2=>gnd ?_ (bc ⟨rfl,ar _,?_,?_⟩)) (fun c2=>bt (fun c3=>gnd ?_ (bc ⟨rfl,ar _,?_,?_⟩)) (fun c3=>bt (fun c4=>gnd ?_ (bc ⟨rfl,ar _,?_,?_⟩)) (fun c4=>bt (fun c5=>gnd ?_ (bc ⟨rfl,ar _,?_,?_⟩)) (fun c5=>bt (fun c6=>gnd ?_ (amv ?_ (bc ⟨rfl,ar _,?_,?_⟩))) (fun c6=>bt (fun c7=>gnd ?_ (gnd ?_ (bc ⟨rfl,ar _,?_,?_⟩))) (fun c7=>bt (fun c8=>gnd ?_ (gnd ?_ (bc ⟨rfl,ar _,?_,?_⟩))) (fun c8=>bt (fun c9=>gnd ?_ (bc ⟨rfl,ar _,?_,?_⟩)) (fun c9=>bc ⟨rfl,ar _,?_,?_⟩)))))))))))
 all_goals first
  | exact h0
  | exact hc
  | exact y
  | exact dp y (gj _ _)
  | exact eu y (gj _ _)
  | exact dp y rfl
  | exact⟨Y,W,s3,U,Z,O,V,J⟩
  | exact (mw (p:=sub (ai p q) 1 3) (dp y rfl)).1
  | exact⟨m8 (mw (p:=sub (ai p q) 1 3) (dp y rfl)).2 u2,W,s3,U,Z,O,V,J⟩
  | exact⟨Y,m8 (mw (p:=sub (ai p q) 1 3) (dp y rfl)).2 u2,s3,U,Z,O,V,J⟩
  | exact (xf (p:=sub (ai p q) 1 3) (dp y rfl)).1
  | exact⟨Y,W,m8 (xf (p:=sub (ai p q) 1 3) (dp y rfl)).2 u2,U,Z,O,V,J⟩
  | exact (xD (p:=sub (ai p q) 1 3) (dp y rfl)).1
  | exact⟨Y,W,s3,m8 (xD (p:=sub (ai p q) 1 3) (dp y rfl)).2 u2,Z,O,V,J⟩
  | exact dp y (dp (bU y) (dp (hL _) rfl))
  | exact dp (dp y (dp (bU y) (dp (hL _) rfl))) (bn _)
  | exact hw.1
  | exact dp y (dp h6 rfl)
  | exact dp (dp y (dp h6 rfl)) (bn _)
  | exact dp y (dp h7 rfl)
  | exact dp (dp y (dp h7 rfl)) (bn _)
  | exact bU y
  | exact⟨Y,W,s3,U,Z,m8 w6 (by omega),V,J⟩
  | exact⟨Y,W,s3,U,Z,O,m8 w7 (by omega),J⟩
  | exact⟨Y,W,s3,U,akx t5,O,V,fun r hr=>(n3.1 hr).elim (J r) fun hr=>by obtain rfl:=y5.1 hr;exact m8 hw.2 u2⟩
theorem PG{p:b8}{q:D}(h:(aw (gd p 0) (gd p 1)&&(leI 0 q.int&&leI q.int 100))=true):aw (gd (cV p q) 1) (gd (cV p q) 2)=true/\SmS 6000 (sub (cV p q) 4 9):=by unfold cV;exact (cH (wT p [q] h)).2
theorem MV(N:Nat)(p q:b8):gP N p q=gP N p [gd q 0]:=by unfold gP;simp only[bn];rfl
def AM:Ent:=(168,e2 (.tup [.agg f4]) ri fun p q=>(⟨.tup [.agg [.any],.agg f4,.agg d9],cV p (gd q 0)⟩,aw (gd p 0) (gd p 1)&&(leI 0 (gd q 0).int&&leI (gd q 0).int 100)))
theorem Ky:ay f8 AM:=bm fun p q h=>cN (N:=0) (ks:=Az) (key:=bo) (al (fC ⟨Fm,fC ⟨cZ,fC ⟨hD,fC ⟨Bx,fC ⟨Li,fC ⟨Le,fC ⟨kP,fC ⟨sA,fN⟩⟩⟩⟩⟩⟩⟩⟩)) (cB Tryz.func168) Tryz.func168 fun hw y=>by rw[Kk];exact congrArg (fun x=>some (bo,x)) (((MV _ p q).trans (cH (wT p [gd q 0] h)).1).trans (by unfold cV;exact rfl))
abbrev gQ:=find [YT,RG,AM,EA,oR,jx,iK,tC,dI]
abbrev gR:=[0,2,3,4,5,6,7,8,9,10,11,27,31,37,43,48,10000027,10000031]
def jf(N:Nat)(p:b8):b8->Out:=bb f8 gQ N gR Tryz.f47 (.tup [.agg d9,.c (.d si),.c (.d (.sl 41)),.c (.d (.sl 70))]) [⟨sd (.sl 5),p⟩] 0
def jg(N:Nat)(p:b8):b8->Out:=bb f8 gQ N gR Tryz.f47 (.tup [.agg d9,.c (.d si),.c (.d (.sl 41)),.c (.d (.sl 70))]) [⟨sd (.sl 5),p⟩] 2
theorem xO(N:Nat)(p:b8)(y:b8):(jf N p) (sub y 0 33) =
 nd (aw (gd y 21) (gd y 22)) (bif ltI ((gd y 8).rows.length:Int) (w64 (16+(gd (aa [gd y 21,gd y 22,gd y 23] (.i 2)) 4).int)) then nd (bl ((gd y 8).rows ++ [[.i 1,.i 2]])&&true) (nx (sub y 0 8++([.l ((gd y 8).rows ++ [[.i 1,.i 2]])]++(sub y 9 12++([gd (aa [gd y 21,gd y 22,gd y 23] (.i 2)) 1,gd (aa [gd y 21,gd y 22,gd y 23] (.i 2)) 2,gd (aa [gd y 21,gd y 22,gd y 23] (.i 2)) 3]++sub y 24 9)))))
 else ex 0 (sub y 0 21++([gd (aa [gd y 21,gd y 22,gd y 23] (.i 2)) 1,gd (aa [gd y 21,gd y 22,gd y 23] (.i 2)) 2,gd (aa [gd y 21,gd y 22,gd y 23] (.i 2)) 3]++sub y 24 9))):=by kernel_rfl
theorem xk(N:Nat)(p:b8)(y:b8):(jg N p) (sub y 0 35) =
 nd (aw (gd y 23) (gd y 24)) (bif ltI (gd y 13).int (w64 (60 - (gd (aa [gd y 23,gd y 24,gd y 25] (.i 3)) 4).int)) then nd (bl ((gd y 9).rows ++ [[.i (w64 (100+(gd y 13).int)),gd y 13]])&&true) (nx (sub y 0 9++([.l ((gd y 9).rows ++ [[.i (w64 (100+(gd y 13).int)),gd y 13]]),gd y 10,gd y 11,gd y 12,.i (w64 ((gd y 13).int+1))]++(sub y 14 9++([gd (aa [gd y 23,gd y 24,gd y 25] (.i 3)) 1,gd (aa [gd y 23,gd y 24,gd y 25] (.i 3)) 2,gd (aa [gd y 23,gd y 24,gd y 25] (.i 3)) 3]++sub y 26 9)))))
 else ex 2 (sub y 0 23++([gd (aa [gd y 23,gd y 24,gd y 25] (.i 3)) 1,gd (aa [gd y 23,gd y 24,gd y 25] (.i 3)) 2,gd (aa [gd y 23,gd y 24,gd y 25] (.i 3)) 3]++sub y 26 9))):=by kernel_rfl
def bM(p:b8):b8:=cV (sub (dV (gd p 0)) 0 3) (gd (dM (gd p 0) (.i 20)) 0)
def bL(p:b8):b8:=dv (sub (cE (sub (bM p) 1 3)) 1 3) (sub (bM p) 4 9) (gd (cE (sub (bM p) 1 3)) 4)
def bO(p:b8):b8:=af (sub (aE (sub (bL p) 1 3)) 1 3) (.i 12)
def gD(p:b8):b8:=eU (sub (bO p) 1 3) (.i 9)
def oD(N:Nat)(p:b8)(y:Out):Out:=
 nx (sub y.pay 0 33)
def oa(N:Nat)(p:b8)(y:Out):Out:=
 some (1,sub y.pay 26 9 ++ [gd y.pay 7,gd y.pay 8,gd y.pay 9])
def nY(N:Nat)(p:b8)(y:Out):Out:=
 nd (y.code==0) (nd (aw (gd y.pay 21) (gd y.pay 22)) (bif (gd (af (sub y.pay 21 3) (.i 20)) 4).bool then (let J:=aX (jg N p) N (sub y.pay 0 9++([.l [],gd y.pay 10,gd y.pay 11,gd (af (sub y.pay 21 3) (.i 20)) 4,.i 0]++(sub y.pay 12 9++([gd (af (sub y.pay 21 3) (.i 20)) 1,gd (af (sub y.pay 21 3) (.i 20)) 2,gd (af (sub y.pay 21 3) (.i 20)) 3]++sub y.pay 24 9))));
   nd J.isSome (nd (J.code==4) (oa N p J)))
  else some (1,sub y.pay 24 9 ++ [gd y.pay 7,gd y.pay 8,gd y.pay 9])))
def oK(N:Nat)(p:b8)(y:Out):Out:=
 nd (y.code==0) (nd (aw (gd y.pay 20) (gd y.pay 21)) ((let J:Out:=(bif (gd (af (sub y.pay 20 3) (.i 30)) 4).bool then (let M:=aX (jf N p) N (sub y.pay 0 11++([gd (af (sub y.pay 20 3) (.i 30)) 4]++(sub y.pay 11 9++([gd (af (sub y.pay 20 3) (.i 30)) 1,gd (af (sub y.pay 20 3) (.i 30)) 2,gd (af (sub y.pay 20 3) (.i 30)) 3]++sub y.pay 23 9))));
   nd M.isSome (nd (M.code==2) (oD N p M)))
  else nx (sub y.pay 0 11++([gd (af (sub y.pay 20 3) (.i 30)) 4]++(sub y.pay 11 9++([gd (af (sub y.pay 20 3) (.i 30)) 1,gd (af (sub y.pay 20 3) (.i 30)) 2,gd (af (sub y.pay 20 3) (.i 30)) 3]++sub y.pay 23 9)))));
  nd J.isSome (nY N p J))))
def eF(N:Nat)(p:b8):Out:=
 nd (leI ((gd p 0).rows.length:Int) 1048576) (nd (leI ((gd p 0).rows.length:Int) 1048576&&(leI 0 20&&leI 20 100)) (nd (aw (gd (dV (gd p 0)) 0) (gd (dV (gd p 0)) 1)&&(leI 0 (gd (dM (gd p 0) (.i 20)) 0).int&&leI (gd (dM (gd p 0) (.i 20)) 0).int 100)) (nd (aw (gd (bM p) 1) (gd (bM p) 2)) (nd (aw (gd (cE (sub (bM p) 1 3)) 1) (gd (cE (sub (bM p) 1 3)) 2)&&leI ((gd (bM p) 8).rows.length:Int) 1000000) (nd (aw (gd (bL p) 1) (gd (bL p) 2)) (nd (aw (gd (aE (sub (bL p) 1 3)) 1) (gd (aE (sub (bL p) 1 3)) 2)) ((let y:Out:=(bif (gd (bO p) 4).bool then nd (aw (gd (bO p) 1) (gd (bO p) 2)&&(leI 0 9&&leI 9 100)) (nx ([gd p 0,.i 0,.i 0,.l [],.l [],.i 0,.i 0,gd (cE (sub (bM p) 1 3)) 4,gd (bL p) 4,gd (gD p) 4,gd (bO p) 4,.i 0,.l [],.l [],.l [],.l [],.l [],.l [],.l [],.i 0,gd (gD p) 1,gd (gD p) 2,gd (gD p) 3]++sub (bM p) 4 9))
  else nx ([gd p 0,.i 0,.i 0,.l [],.l [],.i 0,.i 0,gd (cE (sub (bM p) 1 3)) 4,gd (bL p) 4,gd (aE (sub (bL p) 1 3)) 4,gd (bO p) 4,.i 0,.l [],.l [],.l [],.l [],.l [],.l [],.l [],.i 0,gd (bO p) 1,gd (bO p) 2,gd (bO p) 3]++sub (bM p) 4 9));
  nd y.isSome (oK N p y)))))))))
theorem wV(N:Nat)(p:b8):bf f8 gQ N gR Tryz.f47 (.tup [.agg d9,.c (.d si),.c (.d (.sl 41)),.c (.d (.sl 70))]) [⟨sd (.sl 5),p⟩]=some (bo,eF N p):=by kernel_rfl
theorem amH(p st:b8)(e:st=sub st 0 33)(hc:aw (gd st 21) (gd st 22)=true)(hS:SmS 6000 (sub st 24 9)) :
  GG (fun c l=>c=2/\aw (gd l 21) (gd l 22)=true/\SmS 6000 (sub l 24 9)) (aX (jf 200 p) 200 st):=by
 refine ir (I:=fun k s=>s=sub s 0 33/\aw (gd s 21) (gd s 22)=true/\k<=(gd s 8).rows.length/\k<=17/\SmS 6000 (sub s 24 9)) 17 (fun k s J=>?_) 200 0 st ⟨e,hc,n5 _,n5 _,hS⟩ (by decide) (n5 _);obtain⟨e,hc,U,hk,hS⟩:=J;have V:w64 (16+(gd (aa [gd s 21,gd s 22,gd s 23] (.i 2)) 4).int)<=17:=by obtain⟨O,M⟩:=If (z:=gd s 23) (q:=.i 2) hc;rw[aA] at M;rw[bD (by omega) (by omega)];omega
 refine grd e (geq (xO _ _ s) (gnd hc (bt (fun y=>?_) (fun y=>bc (.inr ⟨by decide,rfl,ch hc,hS⟩)))));have y:((gd s 8).rows.length:Int)<w64 (16+(gd (aa [gd s 21,gd s 22,gd s 23] (.i 2)) 4).int):=i7 y;exact gnd (dQ (by omega)) (bc (.inl ⟨rfl,by omega,ar _,ch hc,(by show k+1<=((gd s 8).rows ++ [[D.i 1,.i 2]]).length;rw[i6,n9];omega),by omega,hS⟩))
theorem amk(p st:b8)(e:st=sub st 0 35)(hc:aw (gd st 23) (gd st 24)=true)(hi:(gd st 13).int=0)(J:(gd st 9).rows.length<=0)(hS:SmS 6000 (sub st 26 9)) :
  GG (fun c l=>c=4/\SmS 6000 (sub l 26 9)) (aX (jg 200 p) 200 st):=by
 refine ir (I:=fun k s=>s=sub s 0 35/\aw (gd s 23) (gd s 24)=true/\(gd s 13).int=(k:Int)/\(gd s 9).rows.length<=k/\k<=60/\SmS 6000 (sub s 26 9)) 60 (fun k s O=>?_) 200 0 st ⟨e,hc,hi,J,n5 _,hS⟩ (by decide) (n5 _);obtain⟨e,hc,hi,J,hk,hS⟩:=O;have V:w64 (60 - (gd (aa [gd s 23,gd s 24,gd s 25] (.i 3)) 4).int)<=60:=by obtain⟨U,M⟩:=If (z:=gd s 25) (q:=.i 3) hc;rw[aA] at M;rw[bD (by omega) (by omega)];omega
 have hw:w64 ((gd s 13).int+1)=((k+1:Nat):Int):=by rw[bD (by omega) (by omega)];omega
 refine grd e (geq (xk _ _ s) (gnd hc (bt (fun y=>?_) (fun y=>bc (.inr ⟨by decide,rfl,hS⟩)))));have y:(gd s 13).int<w64 (60 - (gd (aa [gd s 23,gd s 24,gd s 25] (.i 3)) 4).int):=i7 y;exact gnd (dQ (by omega)) (bc (.inl ⟨rfl,by omega,ar _,ch hc,hw,(by show ((gd s 9).rows ++ [[D.i (w64 (100+(gd s 13).int)),gd s 13]]).length<=k+1;rw[i6,n9];omega),by omega,hS⟩))
@[irreducible] def am(p:D):b8:=sub (eF (200) [p]).pay 0 12
theorem mB(p:b8)(h:(leI ((gd p 0).rows.length:Int) 1048576)=true):GG (fun c l=>c=1/\l=sub l 0 12/\(SmS 6000 (sub l 0 9))) (eF (200) p):=by
 have hN:aw (gd (dV (gd p 0)) 0) (gd (dV (gd p 0)) 1)=true:=adt h;have hZ:=aav (p:=gd p 0) (q:=.i 20) (dp h rfl);have V:(aw (gd (dV (gd p 0)) 0) (gd (dV (gd p 0)) 1)&&(leI 0 (gd (dM (gd p 0) (.i 20)) 0).int&&leI (gd (dM (gd p 0) (.i 20)) 0).int 100))=true:=dp hN (dp (bi hZ.1) (bi hZ.2));have y:=PG (p:=sub (dV (gd p 0)) 0 3) (q:=gd (dM (gd p 0) (.i 20)) 0) V;have Y:aw (gd (cE (sub (cV (sub (dV (gd p 0)) 0 3) (gd (dM (gd p 0) (.i 20)) 0)) 1 3)) 1) (gd (cE (sub (cV (sub (dV (gd p 0)) 0 3) (gd (dM (gd p 0) (.i 20)) 0)) 1 3)) 2)=true:=ali y.1;have W:leI ((gd (cV (sub (dV (gd p 0)) 0 3) (gd (dM (gd p 0) (.i 20)) 0)) 8).rows.length:Int) 1000000=true:=bi (by have:(gd (cV (sub (dV (gd p 0)) 0 3) (gd (dM (gd p 0) (.i 20)) 0)) 8).rows.length<=6000:=y.2.2.2.2.1;omega);have hR:=uw (p:=sub (cE (sub (cV (sub (dV (gd p 0)) 0 3) (gd (dM (gd p 0) (.i 20)) 0)) 1 3)) 1 3) (q:=sub (cV (sub (dV (gd p 0)) 0 3) (gd (dM (gd p 0) (.i 20)) 0)) 4 9) (r:=gd (cE (sub (cV (sub (dV (gd p 0)) 0 3) (gd (dM (gd p 0) (.i 20)) 0)) 1 3)) 4) (dp Y W);have J:aw (gd (bL p) 1) (gd (bL p) 2)=true:=hR.1;have U:aw (gd (aE (sub (bL p) 1 3)) 1) (gd (aE (sub (bL p) 1 3)) 2)=true:=DV J;have M:aw (gd (bO p) 1) (gd (bO p) 2)=true:=cx U;have hV:=Fa (p:=sub (bO p) 1 3) (q:=.i 9) (dp M rfl);unfold eF;refine gnd h (gnd (dp h rfl) (gnd V (gnd y.1 (gnd (dp Y W) (gnd J (gnd U (gjn (K:=oK 200 p) (fun l=>aw (gd l 20) (gd l 21)=true/\SmS 6000 (sub l 23 9)) (bt (fun _=>gnd (dp M rfl) (bc ⟨rfl,hV.1,y.2⟩)) (fun _=>bc ⟨rfl,M,y.2⟩)) ?_)))))));rintro l ⟨h1,hS⟩;refine gnd rfl (gnd h1 (gjn (K:=nY 200 p) (fun m=>aw (gd m 21) (gd m 22)=true/\SmS 6000 (sub m 24 9)) (bt (fun _=>git (K:=oD 200 p) (c:=2) _ (amH p _ (ar _) (cx h1) hS) (fun l hl=>bc ⟨rfl,hl.1,hl.2⟩)) (fun _=>bc ⟨rfl,cx h1,hS⟩)) ?_));rintro m ⟨Z,O⟩;exact gnd rfl (gnd Z (bt (fun _=>git (K:=oa 200 p) (c:=4) _ (amk p _ (ar _) (cx Z) rfl (n5 _) O) (fun l hl=>bc ⟨rfl,ar _,hl⟩)) (fun _=>bc ⟨rfl,ar _,O⟩)))
theorem yB{p:D}(h:(leI (p.rows.length:Int) 1048576)=true):SmS 6000 (sub (am p) 0 9):=by unfold am;exact (cH (mB [p] h)).2
theorem yp(N:Nat)(p:b8):eF N p=eF N [gd p 0]:=by kernel_rfl
def pv:Ent:=(47,e1 (sd (.sl 5)) fun p=>(⟨.tup [.agg d9,.c (.d si),.c (.d (.sl 41)),.c (.d (.sl 70))],am (gd p 0)⟩,leI ((gd p 0).rows.length:Int) 1048576))
theorem wW:ay f8 pv:=cK fun p h=>au (N:=200) (ks:=gR) (al (fC ⟨ZT,fC ⟨Xj,fC ⟨Ky,fC ⟨OQ,fC ⟨rK,fC ⟨kP,fC ⟨gz,fC ⟨Cx,fC ⟨cZ,fN⟩⟩⟩⟩⟩⟩⟩⟩⟩)) Tryz.func47 fun hw=>by rw[wV];exact congrArg (fun x=>some (bo,x)) (((yp _ p).trans (cH (mB [gd p 0] h)).1).trans (by unfold am;exact rfl))
open Go.ChangeShapes Go.WideShapes Go.ChangeAt Go.Deep
def qn(w:World)(b:Nat):Nat:=
 match w.heap[b]? with
 | some (.cells arr _ _)=>arr.size
 | _=>0
theorem aaC{w:World}{b o:Nat}{u:Value}(h:w.cell? ⟨b,o,none⟩=some u):o<qn w b:=by
 unfold World.cell? at h;simp only at h;unfold qn;cases y:w.heap[b]? with
 | none=>rw[y] at h;cases h
 | some x =>
  rw[y] at h;cases x with
  | cells J t f =>simp only at h ⊢;exact (v8.1 h).1
  | _=>simp at h
theorem Wm{w:World}{b:Nat}(h:w.heap.size<=b):qn w b=0:=by unfold qn;rw[G3 h]
def aic(P:Program)(row:List S)(J:Array Field):Bool:=
 (List.range row.length).all fun j=>(List.range J.size).any fun i=>match J[i]? with
  | some f=>match br P f.type with
   | some y=>decide (f.offset<=j)&&decide (j<f.offset+y.length)&&y.length==P.cellsOf f.type&&y[j - f.offset]?==row[j]?
   | none=>false
  | none=>false
def aes(P:Program):Nat->TypeId->Bool
 | 0,_=>false
 | n+1,T=>match P.underlying T,br P T with
  | some (.int k),some row=>row == [.int k]
  | some .bool,some row=>row == [.bool]
  | some .string,some row=>row == [.str]
  | some (.slice e),some row=>row == [.sl e]&&(match br P e with | some y=>P.cellsOf e==y.length && !y.isEmpty&&aes P n e | none=>false)
  | some (.struct fs),some row=>aic P row fs&&P.cellsOf T==row.length&&fs.toList.all fun f=>aes P n f.type
  | _,_=>false
theorem aaa{Q:Nat->D->Prop}(n:Nat)(h:∀i,i<n->∃x,Q i x):∃l:b8,l.length=n/\∀i,i<n->Q i (gd l i):=by
 induction n with
 | zero=>exact⟨[],rfl,fun i hi=>by omega⟩
 | succ n M =>
  obtain⟨l,hl,J⟩:=M (fun i hi=>h i (by omega));obtain⟨x,y⟩:=h n (by omega);refine⟨l ++ [x],by simp[hl],fun i hi=>?_⟩;by_cases hin:i<n
  ·have:gd (l ++ [x]) i=gd l i:=by simp only[gd,g4];rw[z9 (by omega)]
   rw[this];exact J i hin
  ·obtain rfl:i=n:=by omega
   have:gd (l ++ [x]) i=x:=by simp only[gd,g4];rw[C3 (by omega),hl];simp
   rw[this];exact y
theorem VY{Q:Nat->b8->Prop}(n:Nat)(h:∀i,i<n->∃x,Q i x):∃l:List b8,l.length=n/\∀i,i<n->Q i (l.getD i []):=by
 induction n with
 | zero=>exact⟨[],rfl,fun i hi=>by omega⟩
 | succ n M =>
  obtain⟨l,hl,J⟩:=M (fun i hi=>h i (by omega));obtain⟨x,y⟩:=h n (by omega);refine⟨l ++ [x],by simp[hl],fun i hi=>?_⟩;by_cases hin:i<n
  ·rw[g4,z9 (by omega),<- g4];exact J i hin
  ·obtain rfl:i=n:=by omega
   rw[g4,C3 (by omega),hl];simpa using y
theorem Zx{w:World}{a:Addr}{v:Value}(h:w.cell? a=some v):a=⟨a.block,a.off,none⟩:=by
 cases y:a.spot with
 | none=>cases a;simp at y;subst y;rfl
 | some s =>
  unfold World.cell? at h;rw[y] at h;simp at h
  split at h <;> simp at h
theorem abl{b o i:Nat}:(⟨b,o,none⟩:Addr).add i=⟨b,o+i,none⟩:=by
 unfold Addr.add
 split
 ·rename_i h;rw[h];rfl
 ·rfl
theorem Vs{H:Type}{enc:TypeId × Value->H}{P:Program}{W:World}{base:Nat}{a7:Nat->Bool}{b6:Bool}:∀(n:Nat) (T:TypeId) (row:List S),aes P n T=true->br P T=some row ->
  ∀(a3:Nat) (cs:List Value) (y:DataW H × List MemPlace),DataW.trod enc P W base a7 b6 a3 T cs=some y ->
  ∃p:b8,cs.length=row.length/\∀j s,row[j]?=some s->∃u,cs[j]?=some u/\VD P W (qn W) s (gd p j) u
 | 0,T,row,hl,_,_,_,_,_=>by cases hl
 | n+1,T,row,hl,hrow,a3,cs,y,h=>by
  rw[aes,hrow] at hl
  split at hl
  ·rename_i k Y O M;injection M with M;subst M
   have hl:row = [.int k]:=by simpa using hl
   subst hl;obtain⟨a,e,_,_⟩:=DataW.trod_int O h;subst e;refine⟨[.i a],rfl,fun j s J=>?_⟩
   match j,J with
   | 0,J=>injection J with J;subst J;exact⟨_,rfl,.int k (.i a)⟩
  ·rename_i Y O M;injection M with M;subst M
   have hl:row = [.bool]:=by simpa using hl
   subst hl;obtain⟨a,e,_⟩:=DataW.trod_bool O h;subst e;refine⟨[.b a],rfl,fun j s J=>?_⟩
   match j,J with
   | 0,J=>injection J with J;subst J;exact⟨_,rfl,.bool (.b a)⟩
  ·rename_i Y O M;injection M with M;subst M
   have hl:row = [.str]:=by simpa using hl
   subst hl;obtain⟨a,e,_⟩:=DataW.trod_string O h;subst e;refine⟨[.s (qk a)],rfl,fun j s J=>?_⟩
   match j,J with
   | 0,J =>
    injection J with J;subst J
    have:=VD.str (P:=P) (w:=W) (prot:=qn W) (.s (qk a));rw[ye,uK] at this;exact⟨_,rfl,this⟩
  ·rename_i e Y O M;injection M with M;subst M
   simp only[a9] at hl;obtain⟨a1,hl⟩:=hl;have a1:row = [.sl e]:=by simpa using a1
   subst a1
   split at hl
   ·rename_i U a6;simp only[a9,u7,o8] at hl;obtain⟨⟨hc,c2⟩,c9⟩:=hl;have c1:0<U.length:=by cases U with | nil=>cases c2 | cons=>simp
    rcases open_slice O h with⟨rfl,_⟩ | ⟨a,len,cap,m,nn,Dd,Pl,rfl,hb,hlc,hm,hmm,hx,hi⟩
    ·refine⟨[.l []],rfl,fun j s J=>?_⟩
     match j,J with
     | 0,J=>injection J with J;subst J;exact⟨_,rfl,.sl e (.l []) none 0 U (fun _ _=>undef) a6 (n5 _) (by omega) (fun i j hi=>absurd hi (G2 _)) (fun i j s hi=>absurd hi (G2 _))⟩
    ·have d4:len<=m:=by rw[hmm];split <;> omega
     have ha:0<len->a=⟨a.block,a.off,none⟩:=by intro h0;obtain⟨d3,b0,_⟩:=hi 0 (by omega);rw[hc] at b0;obtain⟨_,d1,c0⟩:=World.cells?_some b0;have b3:=c0 0 c1;rw[g9 (by omega)] at b3;have:=Zx b3;rw[K4] at this;simpa [Addr.add] using this
     have hq:∀i,i<len->∃p:b8,∀j s,U[j]?=some s->∃u,W.cell? ⟨a.block,a.off+(i*U.length+j),none⟩=some u/\VD P W (qn W) s (gd p j) u:=by intro i d5;obtain⟨c5,b5,a0⟩:=hi i (by omega);rw[hc] at b5;obtain⟨_,d6,c7⟩:=World.cells?_some b5;obtain⟨p,_,hp⟩:=Vs n e U c9 a6 nn c5 _ a0;refine⟨p,fun j s J=>?_⟩;obtain⟨u,O,hv⟩:=hp j s J;have hj:=(g7.1 J).1;have:=c7 j hj;rw[O,ha (by omega),abl,abl] at this;refine⟨u,?_,hv⟩;rw[<- this];congr 2;omega
     obtain⟨l,a4,a8⟩:=VY len hq;refine⟨[.l l],rfl,fun j s J=>?_⟩
     match j,J with
     | 0,J =>
      injection J with J;subst J
      refine⟨_,rfl,?_⟩;have b2:=VD.sl (P:=P) (w:=W) (prot:=qn W) e (.l l) (some a) cap U (fun i j=>(W.cell? ⟨a.block,a.off+(i*U.length+j),none⟩).getD undef) a6 (by rw[bd];omega) (by unfold maxLen at hm;omega) ?_ ?_
      ·rw[bd,a4] at b2;exact b2
      ·intro i j hi hj;rw[bd,a4] at hi;obtain⟨u,O,_⟩:=a8 i hi j U[j] (g9 hj);refine⟨a.block,a.off,by rw[<- ha (by omega)],?_,aaC O⟩;rw[O];rfl
      ·intro i j s hi J;rw[bd,a4] at hi;obtain⟨u,O,hv⟩:=a8 i hi j s J;show VD P W (qn W) s (gd (l.getD i []) j) ((W.cell? ⟨a.block,a.off+(i*U.length+j),none⟩).getD undef);rw[O];exact hv
   ·cases hl
  ·rename_i fs Y O M;injection M with M;subst M
   simp only[a9,u7] at hl;obtain⟨⟨Z,c8⟩,a5⟩:=hl;obtain⟨xs,nn,_,_,a2,c6,hg⟩:=DataW.trod_struct O h;rw[c8] at a2;have hq:∀j,j<row.length->∃d:D,∀s,row[j]?=some s->∃u,cs[j]?=some u/\VD P W (qn W) s d u:=by
    intro j hj;unfold aic at Z;rw[i9] at Z;have b1:=Z j (m7.2 hj);rw[D3] at b1;obtain⟨i,hi,V⟩:=b1;have hi:=m7.1 hi
    split at V
    ·rename_i f hf
     split at V
     ·rename_i rf c4;simp only[a9,g5,u7] at V;obtain⟨⟨⟨k1,k2⟩,k3⟩,k4⟩:=V;have c3:aes P n f.type=true:=by rw[i9] at a5;exact a5 f (by have:=v8.1 hf;obtain⟨h1,h2⟩:=this;rw[<- h2];simp)
      have a0:=hg i f hf;rw[g9 (by rw[c6];exact hi)] at a0;obtain⟨p,d2,hp⟩:=Vs n f.type rf c3 c4 nn _ _ a0;refine⟨gd p (j - f.offset),fun s J=>?_⟩;rw[J] at k4;obtain⟨u,b4,hv⟩:=hp _ _ k4;refine⟨u,?_,hv⟩;rw[I9 (by omega),A6] at b4;rw[<- b4];congr 1;omega
     ·cases V
    ·cases V
   obtain⟨p,_,hp⟩:=aaa row.length hq;exact⟨p,a2,fun j s J=>hp j (g7.1 J).1 s J⟩
  ·cases hl
theorem ajt{H:Type}{enc:TypeId × Value->H}{P:Program}{W:World}{base:Nat}{y:Nat->Bool}{M:Bool}{T:TypeId}{s:S}{v:Value}{d:DataW H}{ps:List MemPlace}
  (U:br P T=some [s]) (hl:aes P 12 T=true) (hv:v.cells.toList = [v]) (hy:DataW.Trod enc P W base y M T v d ps) :
  ∃p,VT P W (g0 W.heap.size (qn W)) W.heap.size ⟨.one (.c (.d s)),p⟩ v:=by
 obtain⟨O,V⟩:=hy;rw[hv] at V;obtain⟨p,_,Z⟩:=Vs 12 T [s] hl U O _ _ V;obtain⟨u,J,Y⟩:=Z 0 s rfl;injection J with J;subst J;exact⟨p,Y⟩
theorem alg{P:Program}{W:World}{t:T}{v:Value}(h:VT P W (g0 W.heap.size (qn W)) W.heap.size t v):lq P (qn W) W [t] #[v]:=⟨rfl,fun j J y=>by
 match j,y with
 | 0,y=>injection y with y;subst y;exact⟨v,rfl,h⟩⟩
theorem ajJ{P:Program}{f:FuncId}{args:List T}{b:Bool}(h:aJ P f args ⟨rb,[.b b]⟩){W:World}{J:Array Value}(O:lq P (qn W) W args J) :
  Calls P f J W fun e M=>e=.returned (.bool b)/\Below W.heap.size W M:=by
 refine ((h.n rfl).2 W (qn W) J O (fun b U=>Wm U)).mono fun e M V=>?_
 obtain⟨v,g',rfl,y⟩:=V;have hv:VD P M g'.prot .bool (.b b) v:=y.val;cases hv;exact⟨rfl,y.below⟩
abbrev agH:=find []
theorem adY:av f8 agH:=al (fN)
abbrev agj:=[0,2]
theorem afG(N:Nat)(p:b8):bf f8 agH N agj Tryz.f34 rb [⟨sd (.sl 5),p⟩]=some (bo,
 ob (ltI 1048576 ((gd p 0).rows.length:Int))):=by kernel_rfl
def agF:Ent:=(34,e1 (sd (.sl 5)) fun p=>(⟨rb,[.b (ltI 1048576 ((gd p 0).rows.length:Int))]⟩,true))
theorem agO:ay f8 agF:=cK fun p h=>au (N:=0) (ks:=agj) adY Tryz.func34 fun hw=>by rw[afG]
abbrev wg:=find []
theorem Lf:av f8 wg:=al (fN)
abbrev vw:=[0,1,4,5,10,14,25]
def AL(N:Nat)(p q:b8):b8->Out:=bb f8 wg N vw Tryz.f48 rb [⟨sd (.sl 108),p⟩,⟨sd (.sl 108),q⟩] 0
theorem Rj(N:Nat)(p q:b8)(y J O M x4:D):(AL N p q) [y,J,O,M,x4] =
 bif ltI x4.int (y.rows.length:Int) then nd (ah x4.int y.rows.length) (nd (ah x4.int J.rows.length) (bif !(eH [si,si] (sub (y.rows.getD x4.int.toNat []) 0 2) (sub (J.rows.getD x4.int.toNat []) 0 2)) then ob false
 else nx [y,J,O,M,.i (w64 (x4.int+1))]))
 else ex 0 [y,J,O,M,x4]:=by kernel_rfl
theorem MM(N:Nat)(p q:b8):bf f8 wg N vw Tryz.f48 rb [⟨sd (.sl 108),p⟩,⟨sd (.sl 108),q⟩]=some (bo,
 bif ((gd p 0).rows.length:Int) != ((gd q 0).rows.length:Int) then ob false
 else (let y:=aX (AL N p q) N [gd p 0,gd q 0,.i 0,.b (((gd p 0).rows.length:Int) != ((gd q 0).rows.length:Int)),.i 0]
  nd y.isSome (bif y.code==1 then some (1,y.pay)
  else nd (y.code==2) (ob true)))):=by kernel_rfl
def eD(x y:D):Bool:=ga (fun r s=>eH [si,si] (sub r 0 2) (sub s 0 2)) x y
theorem xz{x y:D}(h:x.rows=y.rows):eD x y=true:=by
 have e:eD x y=eD y y:=by unfold eD ga;rw[h]
 rw[e];exact ib (E:=fun r s=>eH [si,si] (sub r 0 2) (sub s 0 2)) (fun r=>by simp[eH]) y
def Er:Ent:=(48,e2 (sd (.sl 108)) (sd (.sl 108)) fun p q=>(⟨rb,[.b (eD (gd p 0) (gd q 0))]⟩,true))
theorem Oi:ay f8 Er:=bm fun p q h=>au (N:=(gd p 0).rows.length+1) (ks:=vw) Lf Tryz.func48 fun hw=>by
 rw[MM];refine congrArg (fun x=>some (bo,x)) ?_;show _=some (1,[D.b (ga (fun r s=>eH [si,si] (sub r 0 2) (sub s 0 2)) (gd p 0) (gd q 0))]);by_cases hl:(gd p 0).rows.length=(gd q 0).rows.length
 ·rw[Sr (E:=fun r s=>eH [si,si] (sub r 0 2) (sub s 0 2)) (fi (hw ⟨sd (.sl 108),p⟩ (by simp))) hl (fun k=>Rj _ p q _ _ _ _ (.i k)) (by omega)];rw[show (((gd p 0).rows.length:Int) != ((gd q 0).rows.length:Int))=false from by rw[hl];exact I0 _];cases ga (fun r s=>eH [si,si] (sub r 0 2) (sub s 0 2)) (gd p 0) (gd q 0) <;> rfl
 ·rw[show (((gd p 0).rows.length:Int) != ((gd q 0).rows.length:Int))=true from I8.2 (by omega)];rw[show ga (fun r s=>eH [si,si] (sub r 0 2) (sub s 0 2)) (gd p 0) (gd q 0)=false from by simp[ga,hl]];rfl
abbrev uV:=find []
theorem Lj:av f8 uV:=al (fN)
abbrev vj:=[0,1,4,5,10,14,25]
def AK(N:Nat)(p q:b8):b8->Out:=bb f8 uV N vj Tryz.f44 rb [⟨sd (.sl 93),p⟩,⟨sd (.sl 93),q⟩] 0
theorem PY(N:Nat)(p q:b8)(y J O M x4:D):(AK N p q) [y,J,O,M,x4] =
 bif ltI x4.int (y.rows.length:Int) then nd (ah x4.int y.rows.length) (nd (ah x4.int J.rows.length) (bif !(eH [si,si,si,si] (sub (y.rows.getD x4.int.toNat []) 0 4) (sub (J.rows.getD x4.int.toNat []) 0 4)) then ob false
 else nx [y,J,O,M,.i (w64 (x4.int+1))]))
 else ex 0 [y,J,O,M,x4]:=by kernel_rfl
theorem Pk(N:Nat)(p q:b8):bf f8 uV N vj Tryz.f44 rb [⟨sd (.sl 93),p⟩,⟨sd (.sl 93),q⟩]=some (bo,
 bif ((gd p 0).rows.length:Int) != ((gd q 0).rows.length:Int) then ob false
 else (let y:=aX (AK N p q) N [gd p 0,gd q 0,.i 0,.b (((gd p 0).rows.length:Int) != ((gd q 0).rows.length:Int)),.i 0]
  nd y.isSome (bif y.code==1 then some (1,y.pay)
  else nd (y.code==2) (ob true)))):=by kernel_rfl
def kO(x y:D):Bool:=ga (fun r s=>eH [si,si,si,si] (sub r 0 4) (sub s 0 4)) x y
theorem XE{x y:D}(h:x.rows=y.rows):kO x y=true:=by
 have e:kO x y=kO y y:=by unfold kO ga;rw[h]
 rw[e];exact ib (E:=fun r s=>eH [si,si,si,si] (sub r 0 4) (sub s 0 4)) (fun r=>by simp[eH]) y
def DF:Ent:=(44,e2 (sd (.sl 93)) (sd (.sl 93)) fun p q=>(⟨rb,[.b (kO (gd p 0) (gd q 0))]⟩,true))
theorem Pa:ay f8 DF:=bm fun p q h=>au (N:=(gd p 0).rows.length+1) (ks:=vj) Lj Tryz.func44 fun hw=>by
 rw[Pk];refine congrArg (fun x=>some (bo,x)) ?_;show _=some (1,[D.b (ga (fun r s=>eH [si,si,si,si] (sub r 0 4) (sub s 0 4)) (gd p 0) (gd q 0))]);by_cases hl:(gd p 0).rows.length=(gd q 0).rows.length
 ·rw[Sr (E:=fun r s=>eH [si,si,si,si] (sub r 0 4) (sub s 0 4)) (fi (hw ⟨sd (.sl 93),p⟩ (by simp))) hl (fun k=>PY _ p q _ _ _ _ (.i k)) (by omega)];rw[show (((gd p 0).rows.length:Int) != ((gd q 0).rows.length:Int))=false from by rw[hl];exact I0 _];cases ga (fun r s=>eH [si,si,si,si] (sub r 0 4) (sub s 0 4)) (gd p 0) (gd q 0) <;> rfl
 ·rw[show (((gd p 0).rows.length:Int) != ((gd q 0).rows.length:Int))=true from I8.2 (by omega)];rw[show ga (fun r s=>eH [si,si,si,si] (sub r 0 4) (sub s 0 4)) (gd p 0) (gd q 0)=false from by simp[ga,hl]];rfl
def yl:Ent:=Ow [1000085]
theorem Ia:ay f8 yl:=wY _
abbrev sQ:=find [agF,pv,wP,mG,Er,DF,xR,Ng,JF,mq,wh,yl]
abbrev sK:=[0,2,3,4,5,6,7,8,10,11,12,13,14,15,16,17,18,19,21,47,49,60,134,141,145,180]
def lR(N:Nat)(p:b8):b8->Out:=bb f8 sQ N sK Tryz.f7 rb [⟨sd (.sl 5),p⟩] 0
theorem zx(N:Nat)(p:b8)(x0 x1 x2 x3 x4 x5 x6 x7 x8 x9 h0 c9 e8 b3 h5 W h3 c4 g1 c8 d4 y f0 c6 c5 e9 a5 c0 a8 b4 d6 Z f2 e0 a1 x35 c2 f3 b6 c7 b5 h9 O g2 h2 d2 d1 a6 h7 h4 c1 V d3 a7 b0 d8 Y a4 J a0 b2 x61 h6 M U e6 d5 f1 e7 g3 a3 a2 c3 d7 h8 b1:D):(lR N p) [x0,x1,x2,x3,x4,x5,x6,x7,x8,x9,h0,c9,e8,b3,h5,W,h3,c4,g1,c8,d4,y,f0,c6,c5,e9,a5,c0,a8,b4,d6,Z,f2,e0,a1,x35,c2,f3,b6,c7,b5,h9,O,g2,h2,d2,d1,a6,h7,h4,c1,V,d3,a7,b0,d8,Y,a4,J,a0,b2,x61,h6,M,U,e6,d5,f1,e7,g3,a3,a2,c3,d7,h8,b1] =
 bif ltI y.int (x6.rows.length:Int) then nd (ah y.int x6.rows.length) (nd (ah y.int x6.rows.length) (nd (inB (gd (x6.rows.getD y.int.toNat []) 0).int 0 999) (bif (OA x61 (gd (x6.rows.getD y.int.toNat []) 0)).int != (gd (x6.rows.getD y.int.toNat []) 1).int then ob false
 else nd (ah y.int x6.rows.length) (nd (ah y.int x6.rows.length) (bif !(bV x35 x4 [gd (x6.rows.getD y.int.toNat []) 0,.i (w64 ((gd (x6.rows.getD y.int.toNat []) 0).int+1))] (.i 2)) then ob false
 else nx [x0,x1,x2,x3,x4,x5,x6,x7,x8,x9,h0,c9,e8,b3,h5,W,h3,c4,g1,c8,d4,.i (w64 (y.int+1)),f0,c6,c5,e9,a5,c0,a8,b4,d6,Z,f2,e0,a1,x35,c2,f3,b6,c7,b5,h9,O,g2,h2,d2,d1,a6,h7,h4,c1,V,d3,a7,b0,d8,Y,a4,J,a0,b2,x61,h6,M,U,e6,d5,f1,e7,g3,a3,a2,c3,d7,h8,b1])))))
 else ex 0 [x0,x1,x2,x3,x4,x5,x6,x7,x8,x9,h0,c9,e8,b3,h5,W,h3,c4,g1,c8,d4,y,f0,c6,c5,e9,a5,c0,a8,b4,d6,Z,f2,e0,a1,x35,c2,f3,b6,c7,b5,h9,O,g2,h2,d2,d1,a6,h7,h4,c1,V,d3,a7,b0,d8,Y,a4,J,a0,b2,x61,h6,M,U,e6,d5,f1,e7,g3,a3,a2,c3,d7,h8,b1]:=by kernel_rfl
def yR(y:Out):b8:=sub (jB (sub y.pay 58 9) (gd y.pay 4) (.b false)) 0 10
def aK(p:b8):b8:=prI (sub (am (gd p 0)) 0 9) (gd (am (gd p 0)) 9) (gd (am (gd p 0)) 10) (gd (am (gd p 0)) 11)
def cG(p:b8):b8:=prS (sub (am (gd p 0)) 0 9) (gd (am (gd p 0)) 9) (gd (am (gd p 0)) 10) (gd (am (gd p 0)) 11)
def bA(p:b8):b8:=jB (sub (sub (aK p) 0 10) 0 9) (gd (am (gd p 0)) 9) (.b true)
def cg(p:b8):b8:=jB (sub (sub (aK p) 0 10) 0 9) (gd (am (gd p 0)) 9) (.b false)
def cv(p:b8):b8:=prI (sub (sub (aK p) 0 10) 0 9) (gd (am (gd p 0)) 9) (.l []) (.l [])
def mt(p:b8):b8:=jB (sub (sub (bA p) 0 10) 0 9) (gd (am (gd p 0)) 9) (.b false)
theorem Lg(N:Nat)(p:b8):bf f8 sQ N sK Tryz.f7 rb [⟨sd (.sl 5),p⟩]=some (bo,
 bif ltI 1048576 ((gd p 0).rows.length:Int) then ob true
 else nd (leI ((gd p 0).rows.length:Int) 1048576) (nd (bG (sub (am (gd p 0)) 0 9)) (bif (gd (sub (aK p) 0 10) 9).int != (gd (sub (cG p) 0 10) 9).int then ob false
 else bif (gd (sub (aK p) 0 10) 9).int==1 then bif ((gd (sub (aK p) 0 10) 1).rows.length:Int)==0 then ob ((gd (sub (aK p) 0 10) 8).int==0)
 else ob false
 else bif (gd (sub (aK p) 0 10) 9).int != 0 then bif eD (gd (sub (aK p) 0 10) 3) (gd (am (gd p 0)) 3) then bif kO (gd (sub (aK p) 0 10) 4) (gd (am (gd p 0)) 4) then ob (((gd (sub (aK p) 0 10) 5).rows.length:Int)==((gd (am (gd p 0)) 5).rows.length:Int))
 else ob false
 else ob false
 else nd (bG (sub (sub (aK p) 0 10) 0 9)) (nd (bG (sub (sub (aK p) 0 10) 0 9)) (nd (bG (sub (sub (aK p) 0 10) 0 9)) (bif (gd (sub (cv p) 0 10) 9).int != 0 then ob false
 else bif ((gd (sub (cv p) 0 10) 5).rows.length:Int) != ((gd (sub (aK p) 0 10) 5).rows.length:Int) then ob false
 else bif (gd (sub (bA p) 0 10) 9).int != 0 then ob false
 else bif (gd (sub (cg p) 0 10) 9).int != 0 then ob false
 else bif !(eD (gd (sub (cg p) 0 10) 3) (gd (am (gd p 0)) 3)) then ob false
 else bif ((nT (gd (sub (bA p) 0 10) 4) (gd (am (gd p 0)) 9)).rows.length:Int) != 0 then ob false
 else bif ltI ((gd (am (gd p 0)) 5).rows.length:Int) ((gd (sub (aK p) 0 10) 5).rows.length:Int) then (let y:=aX (lR N p) N [gd p 0,.i 0,.b (ltI 1048576 ((gd p 0).rows.length:Int)),.i 0,gd (am (gd p 0)) 9,gd (am (gd p 0)) 10,gd (am (gd p 0)) 11,.i 0,gd (sub (aK p) 0 10) 9,gd (sub (cG p) 0 10) 9,.b ((gd (sub (aK p) 0 10) 9).int != (gd (sub (cG p) 0 10) 9).int),.b ((gd (sub (aK p) 0 10) 9).int==1),.b ((gd (sub (aK p) 0 10) 9).int != 0),.i 0,gd (sub (cv p) 0 10) 9,.i 0,gd (sub (bA p) 0 10) 9,.i 0,gd (sub (cg p) 0 10) 9,.b (((nT (gd (sub (bA p) 0 10) 4) (gd (am (gd p 0)) 9)).rows.length:Int) != 0),.b (ltI ((gd (am (gd p 0)) 5).rows.length:Int) ((gd (sub (aK p) 0 10) 5).rows.length:Int)),.i 0,gd (am (gd p 0)) 0,gd (am (gd p 0)) 1,gd (am (gd p 0)) 2,gd (am (gd p 0)) 3,gd (am (gd p 0)) 4,gd (am (gd p 0)) 5,gd (am (gd p 0)) 6,gd (am (gd p 0)) 7,gd (am (gd p 0)) 8,gd (sub (aK p) 0 10) 0,gd (sub (aK p) 0 10) 1,gd (sub (aK p) 0 10) 2,gd (sub (aK p) 0 10) 3,gd (sub (aK p) 0 10) 4,gd (sub (aK p) 0 10) 5,gd (sub (aK p) 0 10) 6,gd (sub (aK p) 0 10) 7,gd (sub (aK p) 0 10) 8,gd (sub (cG p) 0 10) 0,gd (sub (cG p) 0 10) 1,gd (sub (cG p) 0 10) 2,gd (sub (cG p) 0 10) 3,gd (sub (cG p) 0 10) 4,gd (sub (cG p) 0 10) 5,gd (sub (cG p) 0 10) 6,gd (sub (cG p) 0 10) 7,gd (sub (cG p) 0 10) 8,gd (sub (cv p) 0 10) 0,gd (sub (cv p) 0 10) 1,gd (sub (cv p) 0 10) 2,gd (sub (cv p) 0 10) 3,gd (sub (cv p) 0 10) 4,gd (sub (cv p) 0 10) 5,gd (sub (cv p) 0 10) 6,gd (sub (cv p) 0 10) 7,gd (sub (cv p) 0 10) 8,gd (sub (bA p) 0 10) 0,gd (sub (bA p) 0 10) 1,gd (sub (bA p) 0 10) 2,gd (sub (bA p) 0 10) 3,gd (sub (bA p) 0 10) 4,gd (sub (bA p) 0 10) 5,gd (sub (bA p) 0 10) 6,gd (sub (bA p) 0 10) 7,gd (sub (bA p) 0 10) 8,gd (sub (cg p) 0 10) 0,gd (sub (cg p) 0 10) 1,gd (sub (cg p) 0 10) 2,gd (sub (cg p) 0 10) 3,gd (sub (cg p) 0 10) 4,gd (sub (cg p) 0 10) 5,gd (sub (cg p) 0 10) 6,gd (sub (cg p) 0 10) 7,gd (sub (cg p) 0 10) 8]
  nd y.isSome (bif y.code==1 then some (1,y.pay)
  else nd (y.code==2) (nd (bG (sub y.pay 58 9)) (bif (gd (yR y) 9).int==2 then bif eD (gd (yR y) 3) (gd y.pay 61) then nd (bG (sub y.pay 58 9)) (bif aW (sub y.pay 58 9) then nd (bG (sub y.pay 67 9)) (ob (aW (sub y.pay 67 9)))
  else ob false)
  else ob false
  else ob false))))
 else nd (bG (sub (sub (bA p) 0 10) 0 9)) (bif (gd (sub (mt p) 0 10) 9).int==2 then bif eD (gd (sub (mt p) 0 10) 3) (gd (sub (bA p) 0 10) 3) then nd (bG (sub (sub (bA p) 0 10) 0 9)) (bif aW (sub (sub (bA p) 0 10) 0 9) then nd (bG (sub (sub (cg p) 0 10) 0 9)) (ob (aW (sub (sub (cg p) 0 10) 0 9)))
 else ob false)
 else ob false
 else ob false))))))):=by kernel_rfl
theorem PT{p:b8}(h:aW (sub p 0 9)=true):bG (sub p 0 9)=true:=by have s:=(gf _).1 h;have O:(gd p 3).rows.length<=60:=((ij _).1 s.st).2.2;have M:(gd p 5).rows.length<=60:=(dF h).2.2.1;have y:(gd p 6).rows.length<=60:=sR s.w s.w1;have J:(gd p 7).rows.length<=60:=sR s.e s.e1;show (leI ((gd p 3).rows.length:Int) 100000000&&(leI ((gd p 5).rows.length:Int) 100000000&&(leI ((gd p 6).rows.length:Int) 100000000&&leI ((gd p 7).rows.length:Int) 100000000)))=true;rw[bi (by omega),bi (by omega),bi (by omega),bi (by omega)];rfl
theorem ahA{n:Nat}{p:b8}(Z:n<=100000000)(h:SmS n (sub p 0 9)):bG (sub p 0 9)=true:=by obtain⟨V,U,y,Y,M,O,J,W⟩:=h;have y:(gd p 3).rows.length<=n:=y;have M:(gd p 5).rows.length<=n:=M;have O:(gd p 6).rows.length<=n:=O;have J:(gd p 7).rows.length<=n:=J;show (leI ((gd p 3).rows.length:Int) 100000000&&(leI ((gd p 5).rows.length:Int) 100000000&&(leI ((gd p 6).rows.length:Int) 100000000&&leI ((gd p 7).rows.length:Int) 100000000)))=true;rw[bi (by omega),bi (by omega),bi (by omega),bi (by omega)];rfl
theorem akg(p:b8)(x0 x1 x2 x3 x4 x5 x6 x7 x8 x9 h3 d2 f0 b3 h7 W h5 c6 g3 d1 d6 f2 c8 c7 f1 a5 c0 a8 b4 d8 Z g1 e7 a1 x35 c4 g2 b6 c9 b5 i1 O h0 h4 d4 d3 a6 h9 h6 c3 V d5 a7 b0 e6 Y a4 J a0 b2 x61 h8 M U e8 d7 f3 e9 h2 a3 a2 c5 e0 i0 b1:D)(hl:x6.rows.length<=60)(hk:∀r∈x6.rows,inB (gd r 0).int 0 999=true)(hc:∀r∈x6.rows,(OA x61 (gd r 0)).int=(gd r 1).int/\bV x35 x4 (fu r) (.i 2)=true) :
  aX (lR 62 p) 62 [x0,x1,x2,x3,x4,x5,x6,x7,x8,x9,h3,d2,f0,b3,h7,W,h5,c6,g3,d1,d6,.i 0,f2,c8,c7,f1,a5,c0,a8,b4,d8,Z,g1,e7,a1,x35,c4,g2,b6,c9,b5,i1,O,h0,h4,d4,d3,a6,h9,h6,c3,V,d5,a7,b0,e6,Y,a4,J,a0,b2,x61,h8,M,U,e8,d7,f3,e9,h2,a3,a2,c5,e0,i0,b1]=some (2,[x0,x1,x2,x3,x4,x5,x6,x7,x8,x9,h3,d2,f0,b3,h7,W,h5,c6,g3,d1,d6,.i (x6.rows.length:Int),f2,c8,c7,f1,a5,c0,a8,b4,d8,Z,g1,e7,a1,x35,c4,g2,b6,c9,b5,i1,O,h0,h4,d4,d3,a6,h9,h6,c3,V,d5,a7,b0,e6,Y,a4,J,a0,b2,x61,h8,M,U,e8,d7,f3,e9,h2,a3,a2,c5,e0,i0,b1]):=by
 refine cJ (L:=lR 62 p) (fun k:Nat => [x0,x1,x2,x3,x4,x5,x6,x7,x8,x9,h3,d2,f0,b3,h7,W,h5,c6,g3,d1,d6,.i (k:Int),f2,c8,c7,f1,a5,c0,a8,b4,d8,Z,g1,e7,a1,x35,c4,g2,b6,c9,b5,i1,O,h0,h4,d4,d3,a6,h9,h6,c3,V,d5,a7,b0,e6,Y,a4,J,a0,b2,x61,h8,M,U,e8,d7,f3,e9,h2,a3,a2,c5,e0,i0,b1]) x6.rows.length 0 (fun k y=>?_) ?_ (by omega)
 ·have hr:x6.rows.getD k []∈x6.rows:=by rw[aZ y];exact v6 y
  obtain⟨c1,c2⟩:=hc _ hr;have c2:bV x35 x4 [gd (x6.rows.getD k []) 0,.i (w64 ((gd (x6.rows.getD k []) 0).int+1))] (.i 2)=true:=c2;rw[zx,aA,show ((k:Int)).toNat=k from rfl,lp (by omega),bK y,hk _ hr,c1,c2,aG y (by omega),I0];rfl
 ·rw[zx,aA,iI (by omega)];rfl
def Rn:Ent:=(7,e1 (sd (.sl 5)) fun p=>(⟨rb,[.b true]⟩,true))
theorem Ki:ay f8 Rn:=cK fun p h=>au (N:=62) (ks:=sK) (al (fC ⟨agO,fC ⟨wW,fC ⟨EF,fC ⟨ql,fC ⟨Oi,fC ⟨Pa,fC ⟨Ir,fC ⟨Vg,fC ⟨Re,fC ⟨mn,fC ⟨vX,fC ⟨Ia,fN⟩⟩⟩⟩⟩⟩⟩⟩⟩⟩⟩⟩)) Tryz.func7 fun hw=>by
 rw[Lg];refine congrArg (fun x=>some (bo,x)) ?_;show _=some (1,[D.b true]);cases h1:ltI 1048576 ((gd p 0).rows.length:Int) with
 | true=>rfl
 | false =>
 have hc:leI ((gd p 0).rows.length:Int) 1048576=true:=bi (by have:=L5 h1;omega);have hS:=ahA (by decide) (yB hc);rw[f9,hc,aU,hS,aU];have e2:(gd (sub (cG p) 0 10) 9).int=(gd (sub (aK p) 0 10) 9).int:=(adw (sub (am (gd p 0)) 0 9) (gd (am (gd p 0)) 9) (gd (am (gd p 0)) 10) (gd (am (gd p 0)) 11)).2.symm;have U:aK p=prI (sub (am (gd p 0)) 0 9) (gd (am (gd p 0)) 9) (gd (am (gd p 0)) 10) (gd (am (gd p 0)) 11):=rfl;have a0:bA p=jB (sub (aK p) 0 9) (gd (am (gd p 0)) 9) (.b true):=rfl;have a8:cg p=jB (sub (aK p) 0 9) (gd (am (gd p 0)) 9) (.b false):=rfl;have a7:cv p=prI (sub (aK p) 0 9) (gd (am (gd p 0)) 9) (.l []) (.l []):=rfl;have a4:mt p=jB (sub (bA p) 0 9) (gd (am (gd p 0)) 9) (.b false):=rfl;rw[e2,I0,f9];generalize cG p=B at *;generalize mt p=M at *;generalize cv p=a5 at *;generalize cg p=no at *;generalize bA p=yes at *;generalize aK p=one at *;generalize am (gd p 0)=S at *;cases hA:(gd (sub one 0 10) 9).int==1 with
 | true =>have h9:(gd one 9).int=1:=u7.1 hA;rw[U] at h9;obtain⟨Y,b2⟩:=ajY h9;rw[<- U] at Y b2;have Y:(gd (sub one 0 10) 1).rows.length=0:=Y;have b2:(gd (sub one 0 10) 8).int=0:=b2;rw[g6,Y,b2];rfl
 | false =>
 rw[f9];have n1:(gd one 9).int≠1:=E9.1 hA;cases hB:(gd (sub one 0 10) 9).int != 0 with
 | true =>have n0:(gd one 9).int≠0:=I8.1 hB;rw[U] at n0 n1;obtain⟨f1,f2,f3⟩:=ahP n0 n1;rw[<- U] at f1 f2 f3;have g1:eD (gd (sub one 0 10) 3) (gd S 3)=true:=xz (by have h:=congrArg D.rows f1;exact h);have g2:kO (gd (sub one 0 10) 4) (gd S 4)=true:=XE (by have h:=congrArg D.rows f2;exact h);have g3:(gd (sub one 0 10) 5).rows.length=(gd S 5).rows.length:=f3;rw[g6,g1,g6,g2,g6,g3,s9]
 | false =>
 rw[f9];have V:(gd one 9).int=0:=by have h:((gd one 9).int != 0)=false:=hB;simpa using h
 rw[U] at V;have hsh:=ajG V;have hm:=ads V;obtain⟨_,hin,hwo,_⟩:=xS V;have a6:=abe V;have a3:=ajO V;rw[<- U] at hsh hm a6 a3;obtain⟨wl,wk,_⟩:=(kR _).1 hwo;have y:aW (sub (sub one 0 9) 0 9)=true:=hsh;have J:(gd S 9).int∈an (gd (sub one 0 9) 5):=hm;obtain⟨a1,a2⟩:=aeR y hin J;obtain⟨y1,y2⟩:=ack y hin J;obtain⟨w1,w2,w3⟩:=ale y hin J;have y3:=ado y hin J;obtain⟨W,t2⟩:=amm y hin J;have yc:=fun {x:b8}=>aeX y hin J (x:=x)
 rw[<- a7] at a1 a2;rw[<- a0] at y1 y2 y3 W t2;rw[<- a4] at W t2;rw[<- a8] at w1 w2 w3;simp only[<- a0] at yc;have q1:bG (sub (sub one 0 10) 0 9)=true:=PT (p:=one) hsh;have e1:(gd (sub a5 0 10) 9).int=0:=a1;have e2:(gd (sub a5 0 10) 5).rows.length=(gd (sub one 0 10) 5).rows.length:=a2;have e3:(gd (sub yes 0 10) 9).int=0:=y1;have e4:(gd (sub no 0 10) 9).int=0:=w1;have e5:eD (gd (sub no 0 10) 3) (gd S 3)=true:=xz (by show (gd no 3).rows=_;rw[w2];show (gd one 3).rows=_;rw[a6];rfl);have e6:(nT (gd (sub yes 0 10) 4) (gd S 9)).rows.length=0:=y3;have Z:bG (sub (sub yes 0 10) 0 9)=true:=PT (p:=yes) y2;have e8:aW (sub (sub yes 0 10) 0 9)=true:=y2;have k7:bG (sub (sub no 0 10) 0 9)=true:=PT (p:=no) w3;have k8:aW (sub (sub no 0 10) 0 9)=true:=w3;have e9:(gd (sub M 0 10) 9).int=2:=W;have O:eD (gd (sub M 0 10) 3) (gd (sub yes 0 10) 3)=true:=xz (by have h:=congrArg D.rows t2;exact h);rw[q1,aU,aU,aU,e1,show ((0:Int) != 0)=false from rfl,f9,e2,I0,f9,e3,show ((0:Int) != 0)=false from rfl,f9,e4,show ((0:Int) != 0)=false from rfl,f9,e5,n4,f9,e6,show (((0:Nat):Int) != 0)=false from rfl,f9];cases hC:ltI ((gd S 5).rows.length:Int) ((gd (sub one 0 10) 5).rows.length:Int) with
 | false =>rw[f9,Z,aU,e9,s9,g6,O,g6,aU,e8,g6,k7,aU,k8]
 | true =>
  have b0:(gd (sub S 0 9) 5).rows.length<(gd one 5).rows.length:=by have h:=i7 hC;have h:((gd S 5).rows.length:Int)<((gd one 5).rows.length:Int):=h;show (gd S 5).rows.length<_;omega
  have hx:=a3 b0;have hy:=yc (x:= [gd S 9,.l (gd S 11).rows]) hx rfl;rw[g6,akg p (x6:=gd S 11) (x61:=gd (sub yes 0 10) 3) (x35:=gd (sub one 0 10) 4) (x4:=gd S 9) (hl:=wl) (hk:=fun r hr=>(wk r hr).1) (hc:=fun r hr=>hy r hr)];show nd (bG (sub yes 0 9)) (bif (gd (jB (sub yes 0 9) (gd S 9) (.b false)) 9).int==2 then bif eD (gd (jB (sub yes 0 9) (gd S 9) (.b false)) 3) (gd yes 3) then nd (bG (sub yes 0 9)) (bif aW (sub yes 0 9) then nd (bG (sub no 0 9)) (ob (aW (sub no 0 9))) else ob false) else ob false else ob false)=_;have Z:bG (sub yes 0 9)=true:=Z;have e8:aW (sub yes 0 9)=true:=e8;have k7:bG (sub no 0 9)=true:=k7;have k8:aW (sub no 0 9)=true:=k8;have O:eD (gd M 3) (gd yes 3)=true:=O;rw[<- a4,Z,aU,W,s9,g6,O,g6,aU,e8,g6,k7,aU,k8]
end Go.Proofs.YtpdfmcmnjikppaaGreat
end
