/-
 Texts of the proof,put together: part 9.
-/
import Derived.Test.YtpdfmcmnjikppaaGreatSS1
import Derived.Test.YtpdfmcmnjikppaaGreatSS2
import Derived.Test.YtpdfmcmnjikppaaGreatSS3
import Derived.Test.YtpdfmcmnjikppaaGreatSS4
import Derived.Test.YtpdfmcmnjikppaaGreatSS5
import Derived.Test.YtpdfmcmnjikppaaGreatSS6
import Derived.Test.YtpdfmcmnjikppaaGreatSS7
import Derived.Test.YtpdfmcmnjikppaaGreatSS8
set_option linter.unusedSimpArgs false
set_option linter.unusedVariables false
set_option linter.unusedSectionVars false
noncomputable section
namespace Go.Proofs.YtpdfmcmnjikppaaGreat
abbrev H1:=@Int.tmod_eq_emod_of_nonneg
end Go.Proofs.YtpdfmcmnjikppaaGreat
namespace Go.Proofs.YtpdfmcmnjikppaaGreat
set_option maxRecDepth 4096
set_option maxHeartbeats 1000000
abbrev dO:=find [jE,mM,mB,eI,fF,lQ,uB,mT,xY,AV,qT,AR,AU,ou,yh,vG]
abbrev dP:=[0,1,2,3,4,8,9,10,11,12,13,14,15,16,17,18,19,20,21,22,23,45,54,58,64,69,78,89,94,105,112,132,152,158,164,178,192,3000001,3000037,3000044,4000158]
def dA(N:Nat)(p q r s:b8):b8->Out:=bc f4 dO N dP Tryz.f22 (.tup [.agg d7,.c (.d si)]) [⟨ag aK,p⟩,⟨ri,q⟩,⟨sd (.sl 41),r⟩,⟨sd (.sl 70),s⟩] 0
def eA(N:Nat)(p q r s:b8):b8->Out:=bc f4 dO N dP Tryz.f22 (.tup [.agg d7,.c (.d si)]) [⟨ag aK,p⟩,⟨ri,q⟩,⟨sd (.sl 41),r⟩,⟨sd (.sl 70),s⟩] 3
def eD(N:Nat)(p q r s:b8):b8->Out:=bc f4 dO N dP Tryz.f22 (.tup [.agg d7,.c (.d si)]) [⟨ag aK,p⟩,⟨ri,q⟩,⟨sd (.sl 41),r⟩,⟨sd (.sl 70),s⟩] 5
def ez(N:Nat)(p q r s:b8):b8->Out:=bc f4 dO N dP Tryz.f22 (.tup [.agg d7,.c (.d si)]) [⟨ag aK,p⟩,⟨ri,q⟩,⟨sd (.sl 41),r⟩,⟨sd (.sl 70),s⟩] 7
def cX(N:Nat)(p q r s:b8):b8->Out:=bc f4 dO N dP Tryz.f22 (.tup [.agg d7,.c (.d si)]) [⟨ag aK,p⟩,⟨ri,q⟩,⟨sd (.sl 41),r⟩,⟨sd (.sl 70),s⟩] 9
theorem kC(N:Nat)(p q r s:b8)(x0 x1 x2 x3 x4 x5 x6 x7 x8 x9 J Y a7 b4 c0 Z O c1 b3 V a2 b1 b0 U c2 a8 a3 b6 a5 b5 a4 a0 b2 a6 a1:D):(dA N p q r s) [x0,x1,x2,x3,x4,x5,x6,x7,x8,x9,J,Y,a7,b4,c0,Z,O,c1,b3,V,a2,b1,b0,U,c2,a8,a3,b6,a5,b5,a4,a0,b2,a6,a1] =
 bif Z.bool then bif ltI O.int (J.rows.length:Int) then nd (al O.int J.rows.length) (nx [x0,x1,x2,x3,x4,x5,x6,x7,x8,x9,J,Y,a7,b4,c0,.b (ar (sub (J.rows.getD O.int.toNat []) 0 2)),.i (w64 (O.int+1)),c1,b3,V,a2,b1,b0,U,c2,a8,a3,b6,a5,b5,a4,a0,b2,a6,a1])
 else ex 0 [x0,x1,x2,x3,x4,x5,x6,x7,x8,x9,J,Y,a7,b4,c0,Z,O,c1,b3,V,a2,b1,b0,U,c2,a8,a3,b6,a5,b5,a4,a0,b2,a6,a1]
 else ex 0 [x0,x1,x2,x3,x4,x5,x6,x7,x8,x9,J,Y,a7,b4,c0,Z,O,c1,b3,V,a2,b1,b0,U,c2,a8,a3,b6,a5,b5,a4,a0,b2,a6,a1]:=by kernel_rfl
theorem qK(N:Nat)(p q r s:b8)(x0 x1 x2 x3 x4 x5 x6 x7 x8 x9 O a7 c1 c8 d4 a8 d3 d5 c7 J b2 c4 c3 a6 a4 c2 b3 d1 b6 c9 b4 b0 c5 c0 b1 b5 d2 c6 a1 U a0 a5 V a2 a3 Z Y:D):(eA N p q r s) [x0,x1,x2,x3,x4,x5,x6,x7,x8,x9,O,a7,c1,c8,d4,a8,d3,d5,c7,J,b2,c4,c3,a6,a4,c2,b3,d1,b6,c9,b4,b0,c5,c0,b1,b5,d2,c6,a1,U,a0,a5,V,a2,a3,Z,Y] =
 bif ltI J.int (O.rows.length:Int) then nd (al J.int O.rows.length) (bif !(holds a4 x9 (sub (O.rows.getD J.int.toNat []) 0 2) (.i 1)) then some (1,[a1,U,a0,a5,V,a2,a3,Z,Y,.i 7])
 else nx [x0,x1,x2,x3,x4,x5,x6,x7,x8,x9,O,a7,c1,c8,d4,a8,d3,d5,c7,.i (w64 (J.int+1)),b2,c4,c3,a6,a4,c2,b3,d1,b6,c9,b4,b0,c5,c0,b1,b5,d2,c6,a1,U,a0,a5,V,a2,a3,Z,Y])
 else ex 3 [x0,x1,x2,x3,x4,x5,x6,x7,x8,x9,O,a7,c1,c8,d4,a8,d3,d5,c7,J,b2,c4,c3,a6,a4,c2,b3,d1,b6,c9,b4,b0,c5,c0,b1,b5,d2,c6,a1,U,a0,a5,V,a2,a3,Z,Y]:=by kernel_rfl
theorem qd(N:Nat)(p q r s:b8)(x0 x1 x2 x3 x4 x5 x6 x7 x8 x9 d2 J c5 c9 d5 b6 d4 e0 c8 b5 O a6 a5 U b3 a4 a1 b0 a3 a7 c2 c0 c6 c4 c1 c3 d3 c7 d1 V a8 b4 Y b1 b2 a0 Z a2:D):(eD N p q r s) [x0,x1,x2,x3,x4,x5,x6,x7,x8,x9,d2,J,c5,c9,d5,b6,d4,e0,c8,b5,O,a6,a5,U,b3,a4,a1,b0,a3,a7,c2,c0,c6,c4,c1,c3,d3,c7,d1,V,a8,b4,Y,b1,b2,a0,Z,a2] =
 bif ltI O.int (J.rows.length:Int) then nd (al O.int J.rows.length) (bif !(pd [a6,a5,U,b3,a4,a1,b0,a3,a7] [(gd (J.rows.getD O.int.toNat []) 0),.i (w64 ((gd (J.rows.getD O.int.toNat []) 0).int+1))]) then some (1,[V,a8,b4,Y,b1,b2,a0,Z,a2,.i 4])
 else nx [x0,x1,x2,x3,x4,x5,x6,x7,x8,x9,d2,J,c5,c9,d5,b6,d4,e0,c8,b5,.i (w64 (O.int+1)),a6,a5,U,b3,a4,a1,b0,a3,a7,c2,c0,c6,c4,c1,c3,d3,c7,d1,V,a8,b4,Y,b1,b2,a0,Z,a2])
 else ex 5 [x0,x1,x2,x3,x4,x5,x6,x7,x8,x9,d2,J,c5,c9,d5,b6,d4,e0,c8,b5,O,a6,a5,U,b3,a4,a1,b0,a3,a7,c2,c0,c6,c4,c1,c3,d3,c7,d1,V,a8,b4,Y,b1,b2,a0,Z,a2]:=by kernel_rfl
theorem qJ(N:Nat)(p q r s:b8)(x0 x1 x2 x3 x4 x5 x6 x7 x8 Y g3 J f1 c6 h2 c0 h0 d3 g2 e6 e7 c5 O d5 d4 f2 c3 d1 U c7 e9 c1 f3 f0 c2 c4 d2 g1 c9 e0 c8 b6 a7 b2 b3 b1 b0 a8 b5 b4 a5 a2 a6 a4 V a0 Z a3 a1:D):(ez N p q r s) [x0,x1,x2,x3,x4,x5,x6,x7,x8,Y,g3,J,f1,c6,h2,c0,h0,d3,g2,e6,e7,c5,O,d5,d4,f2,c3,d1,U,c7,e9,c1,f3,f0,c2,c4,d2,g1,c9,e0,c8,b6,a7,b2,b3,b1,b0,a8,b5,b4,a5,a2,a6,a4,V,a0,Z,a3,a1] =
 bif ltI O.int (J.rows.length:Int) then nd (al O.int J.rows.length) (nd (leI (U.rows.length:Int) 1000000000) (bif (gd (sub (dI V (aB U) Y [(gd (J.rows.getD O.int.toNat []) 0),.i (w64 ((gd (J.rows.getD O.int.toNat []) 0).int+1))] (.i 2)) 0 3) 2).int != 0 then some (1,[b6,a7,b2,b3,b1,b0,a8,b5,b4,.i (cG [(gd (sub (dI V (aB U) Y [(gd (J.rows.getD O.int.toNat []) 0),.i (w64 ((gd (J.rows.getD O.int.toNat []) 0).int+1))] (.i 2)) 0 3) 2)])])
 else nd (leI ((gd (sub (dI V (aB U) Y [(gd (J.rows.getD O.int.toNat []) 0),.i (w64 ((gd (J.rows.getD O.int.toNat []) 0).int+1))] (.i 2)) 0 3) 0).rows.length:Int) 100000000&&(leI (Z.rows.length:Int) 100000000&&leI ((gd (sub (dI V (aB U) Y [(gd (J.rows.getD O.int.toNat []) 0),.i (w64 ((gd (J.rows.getD O.int.toNat []) 0).int+1))] (.i 2)) 0 3) 1).rows.length:Int) 100000000)) (nx [x0,x1,x2,x3,x4,x5,x6,x7,x8,Y,g3,J,f1,c6,h2,c0,h0,d3,g2,e6,e7,c5,.i (w64 (O.int+1)),d5,d4,f2,c3,d1,U,c7,e9,c1,f3,f0,c2,c4,d2,g1,c9,e0,c8,b6,a7,b2,b3,b1,b0,a8,b5,b4,gd (sub (eo [a5,a2,a6,a4,gd (sub (dI V (aB U) Y [(gd (J.rows.getD O.int.toNat []) 0),.i (w64 ((gd (J.rows.getD O.int.toNat []) 0).int+1))] (.i 2)) 0 3) 0,a0,Z,a3,a1] (gd (sub (dI V (aB U) Y [(gd (J.rows.getD O.int.toNat []) 0),.i (w64 ((gd (J.rows.getD O.int.toNat []) 0).int+1))] (.i 2)) 0 3) 1)) 0 9) 0,gd (sub (eo [a5,a2,a6,a4,gd (sub (dI V (aB U) Y [(gd (J.rows.getD O.int.toNat []) 0),.i (w64 ((gd (J.rows.getD O.int.toNat []) 0).int+1))] (.i 2)) 0 3) 0,a0,Z,a3,a1] (gd (sub (dI V (aB U) Y [(gd (J.rows.getD O.int.toNat []) 0),.i (w64 ((gd (J.rows.getD O.int.toNat []) 0).int+1))] (.i 2)) 0 3) 1)) 0 9) 1,gd (sub (eo [a5,a2,a6,a4,gd (sub (dI V (aB U) Y [(gd (J.rows.getD O.int.toNat []) 0),.i (w64 ((gd (J.rows.getD O.int.toNat []) 0).int+1))] (.i 2)) 0 3) 0,a0,Z,a3,a1] (gd (sub (dI V (aB U) Y [(gd (J.rows.getD O.int.toNat []) 0),.i (w64 ((gd (J.rows.getD O.int.toNat []) 0).int+1))] (.i 2)) 0 3) 1)) 0 9) 2,gd (sub (eo [a5,a2,a6,a4,gd (sub (dI V (aB U) Y [(gd (J.rows.getD O.int.toNat []) 0),.i (w64 ((gd (J.rows.getD O.int.toNat []) 0).int+1))] (.i 2)) 0 3) 0,a0,Z,a3,a1] (gd (sub (dI V (aB U) Y [(gd (J.rows.getD O.int.toNat []) 0),.i (w64 ((gd (J.rows.getD O.int.toNat []) 0).int+1))] (.i 2)) 0 3) 1)) 0 9) 3,gd (sub (eo [a5,a2,a6,a4,gd (sub (dI V (aB U) Y [(gd (J.rows.getD O.int.toNat []) 0),.i (w64 ((gd (J.rows.getD O.int.toNat []) 0).int+1))] (.i 2)) 0 3) 0,a0,Z,a3,a1] (gd (sub (dI V (aB U) Y [(gd (J.rows.getD O.int.toNat []) 0),.i (w64 ((gd (J.rows.getD O.int.toNat []) 0).int+1))] (.i 2)) 0 3) 1)) 0 9) 4,a0,gd (sub (eo [a5,a2,a6,a4,gd (sub (dI V (aB U) Y [(gd (J.rows.getD O.int.toNat []) 0),.i (w64 ((gd (J.rows.getD O.int.toNat []) 0).int+1))] (.i 2)) 0 3) 0,a0,Z,a3,a1] (gd (sub (dI V (aB U) Y [(gd (J.rows.getD O.int.toNat []) 0),.i (w64 ((gd (J.rows.getD O.int.toNat []) 0).int+1))] (.i 2)) 0 3) 1)) 0 9) 6,gd (sub (eo [a5,a2,a6,a4,gd (sub (dI V (aB U) Y [(gd (J.rows.getD O.int.toNat []) 0),.i (w64 ((gd (J.rows.getD O.int.toNat []) 0).int+1))] (.i 2)) 0 3) 0,a0,Z,a3,a1] (gd (sub (dI V (aB U) Y [(gd (J.rows.getD O.int.toNat []) 0),.i (w64 ((gd (J.rows.getD O.int.toNat []) 0).int+1))] (.i 2)) 0 3) 1)) 0 9) 7,gd (sub (eo [a5,a2,a6,a4,gd (sub (dI V (aB U) Y [(gd (J.rows.getD O.int.toNat []) 0),.i (w64 ((gd (J.rows.getD O.int.toNat []) 0).int+1))] (.i 2)) 0 3) 0,a0,Z,a3,a1] (gd (sub (dI V (aB U) Y [(gd (J.rows.getD O.int.toNat []) 0),.i (w64 ((gd (J.rows.getD O.int.toNat []) 0).int+1))] (.i 2)) 0 3) 1)) 0 9) 8])))
 else ex 7 [x0,x1,x2,x3,x4,x5,x6,x7,x8,Y,g3,J,f1,c6,h2,c0,h0,d3,g2,e6,e7,c5,O,d5,d4,f2,c3,d1,U,c7,e9,c1,f3,f0,c2,c4,d2,g1,c9,e0,c8,b6,a7,b2,b3,b1,b0,a8,b5,b4,a5,a2,a6,a4,V,a0,Z,a3,a1]:=by kernel_rfl
theorem qo(N:Nat)(p q r s:b8)(x0 x1 x2 x3 x4 x5 x6 x7 x8 x9 h3 d4 f2 c2 h7 a5 h5 c9 h0 d3 e7 c0 g1 d1 V f3 b2 c6 O c3 e9 a7 g2 f1 b0 b4 c8 g3 c5 d2 c4 i0 a2 h2 h4 e0 d5 b3 h9 h6 c7 a4 e6 b5 b6 f0 a6 b1 a0 a8 c1 U h8 a1 a3 Z Y:D):(cX N p q r s) [x0,x1,x2,x3,x4,x5,x6,x7,x8,x9,h3,d4,f2,c2,h7,a5,h5,c9,h0,d3,e7,c0,g1,d1,V,f3,b2,c6,O,c3,e9,a7,g2,f1,b0,b4,c8,g3,c5,d2,c4,i0,a2,h2,h4,e0,d5,b3,h9,h6,c7,a4,e6,b5,b6,f0,a6,b1,a0,a8,c1,U,h8,a1,a3,Z,Y] =
 bif ltI O.int (U.rows.length:Int) then bif !f3.bool then nd (al O.int U.rows.length) (bif ltI x9.int (gd (U.rows.getD O.int.toNat []) 0).int then nd (bq (V.rows ++ [[Z,Y]])&&true) ((let J:Out:=(nx [x0,x1,x2,x3,x4,x5,x6,x7,x8,x9,h3,d4,f2,c2,h7,a5,h5,c9,h0,d3,e7,c0,g1,d1,.l (V.rows ++ [[Z,Y]]),.b true,b2,c6,O,.b (ltI O.int (U.rows.length:Int)),.b (ltI x9.int (gd (U.rows.getD O.int.toNat []) 0).int),c3,e9,a7,g2,f1,b0,b4,c8,g3,c5,d2,c4,i0,a2,h2,h4,e0,d5,b3,h9,h6,c7,a4,e6,b5,b6,f0,a6,b1,a0,a8,c1,U,h8,a1,a3,Z,Y]);
  nd J.isSome (nd (al (gd J.pay 28).int (gd J.pay 63).rows.length) (nd (bq ((gd J.pay 24).rows ++ [sub ((gd J.pay 63).rows.getD (gd J.pay 28).int.toNat []) 0 2])&&true) (nx [gd J.pay 0,gd J.pay 1,gd J.pay 2,gd J.pay 3,gd J.pay 4,gd J.pay 5,gd J.pay 6,gd J.pay 7,gd J.pay 8,gd J.pay 9,gd J.pay 10,gd J.pay 11,gd J.pay 12,gd J.pay 13,gd J.pay 14,gd J.pay 15,gd J.pay 16,gd J.pay 17,gd J.pay 18,gd J.pay 19,gd J.pay 20,gd J.pay 21,gd J.pay 22,gd J.pay 23,.l ((gd J.pay 24).rows ++ [sub ((gd J.pay 63).rows.getD (gd J.pay 28).int.toNat []) 0 2]),gd J.pay 25,gd J.pay 26,gd J.pay 27,.i (w64 ((gd J.pay 28).int+1)),gd J.pay 31,gd J.pay 32,gd J.pay 33,gd J.pay 34,gd J.pay 35,gd J.pay 36,gd J.pay 37,gd J.pay 38,gd J.pay 39,gd J.pay 40,gd J.pay 41,gd J.pay 42,gd J.pay 43,gd J.pay 44,gd J.pay 45,gd J.pay 46,gd J.pay 47,gd J.pay 48,gd J.pay 49,gd J.pay 50,gd J.pay 51,gd J.pay 52,gd J.pay 53,gd J.pay 54,gd J.pay 55,gd J.pay 56,gd J.pay 57,gd J.pay 58,gd J.pay 59,gd J.pay 60,gd J.pay 61,gd J.pay 62,gd J.pay 63,gd J.pay 64,gd J.pay 65,gd J.pay 66,gd J.pay 67,gd J.pay 68])))))
 else nd (al O.int U.rows.length) (nd (bq (V.rows ++ [sub (U.rows.getD O.int.toNat []) 0 2])&&true) (nx [x0,x1,x2,x3,x4,x5,x6,x7,x8,x9,h3,d4,f2,c2,h7,a5,h5,c9,h0,d3,e7,c0,g1,d1,.l (V.rows ++ [sub (U.rows.getD O.int.toNat []) 0 2]),f3,b2,c6,.i (w64 (O.int+1)),c3,e9,a7,g2,f1,b0,b4,c8,g3,c5,d2,c4,i0,a2,h2,h4,e0,d5,b3,h9,h6,c7,a4,e6,b5,b6,f0,a6,b1,a0,a8,c1,U,h8,a1,a3,Z,Y])))
 else nd (al O.int U.rows.length) (nd (bq (V.rows ++ [sub (U.rows.getD O.int.toNat []) 0 2])&&true) (nx [x0,x1,x2,x3,x4,x5,x6,x7,x8,x9,h3,d4,f2,c2,h7,a5,h5,c9,h0,d3,e7,c0,g1,d1,.l (V.rows ++ [sub (U.rows.getD O.int.toNat []) 0 2]),f3,b2,c6,.i (w64 (O.int+1)),c3,e9,a7,g2,f1,b0,b4,c8,g3,c5,d2,c4,i0,a2,h2,h4,e0,d5,b3,h9,h6,c7,a4,e6,b5,b6,f0,a6,b1,a0,a8,c1,U,h8,a1,a3,Z,Y]))
 else ex 9 [x0,x1,x2,x3,x4,x5,x6,x7,x8,x9,h3,d4,f2,c2,h7,a5,h5,c9,h0,d3,e7,c0,g1,d1,V,f3,b2,c6,O,c3,e9,a7,g2,f1,b0,b4,c8,g3,c5,d2,c4,i0,a2,h2,h4,e0,d5,b3,h9,h6,c7,a4,e6,b5,b6,f0,a6,b1,a0,a8,c1,U,h8,a1,a3,Z,Y]:=by kernel_rfl
def qC(N:Nat)(p q r s:b8):Out:=bif leI ((gd r 0).rows.length:Int) 16 then nx [gd p 0,gd p 1,gd p 2,gd p 3,gd p 4,gd p 5,gd p 6,gd p 7,gd p 8,gd q 0,gd r 0,gd s 0,.i 0,.i 0,.i 0,.b (aO (gd s 0)),gd p 0,gd p 1,gd p 2,gd p 3,gd p 4,gd p 5,gd p 6,gd p 7,gd p 8,.i 0,.l [],.l [],.l [],.l [],.l [],.l [],.l [],.i 0] else nx [gd p 0,gd p 1,gd p 2,gd p 3,gd p 4,gd p 5,gd p 6,gd p 7,gd p 8,gd q 0,gd r 0,gd s 0,.i 0,.i 0,.i 0,.b false,gd p 0,gd p 1,gd p 2,gd p 3,gd p 4,gd p 5,gd p 6,gd p 7,gd p 8,.i 0,.l [],.l [],.l [],.l [],.l [],.l [],.l [],.i 0]
def qe(N:Nat)(p q r s:b8):Out:=bif inB (gd q 0).int 1 60 then (qC N p q r s) else nx [gd p 0,gd p 1,gd p 2,gd p 3,gd p 4,gd p 5,gd p 6,gd p 7,gd p 8,gd q 0,gd r 0,gd s 0,.i 0,.i 0,.i 0,.b false,gd p 0,gd p 1,gd p 2,gd p 3,gd p 4,gd p 5,gd p 6,gd p 7,gd p 8,.i 0,.l [],.l [],.l [],.l [],.l [],.l [],.l [],.i 0]
def fJ(N:Nat)(p q r s:b8):Out:=bif aY (sub p 0 9) then (qe N p q r s) else nx [gd p 0,gd p 1,gd p 2,gd p 3,gd p 4,gd p 5,gd p 6,gd p 7,gd p 8,gd q 0,gd r 0,gd s 0,.i 0,.i 0,.i 0,.b false,gd p 0,gd p 1,gd p 2,gd p 3,gd p 4,gd p 5,gd p 6,gd p 7,gd p 8,.i 0,.l [],.l [],.l [],.l [],.l [],.l [],.l [],.i 0]
def En(N:Nat)(p q r s:b8)(J:Out):Out:=nd (bq ((gd J.pay 24).rows ++ [sub J.pay 65 2])&&true) (some (1,[gd J.pay 56,gd J.pay 57,gd J.pay 58,gd J.pay 59,gd J.pay 60,.l ((gd J.pay 24).rows ++ [sub J.pay 65 2]),gd J.pay 62,gd J.pay 63,gd J.pay 64,.i 0]))
def ie(N:Nat)(p q r s:b8)(J:Out):Out:=bif !(gd J.pay 25).bool then (En N p q r s J) else some (1,[gd J.pay 56,gd J.pay 57,gd J.pay 58,gd J.pay 59,gd J.pay 60,gd J.pay 24,gd J.pay 62,gd J.pay 63,gd J.pay 64,.i 0])
def CN(N:Nat)(p q r s:b8)(J:Out):Out:=let O:Out:=ba (cX N p q r s) N [gd J.pay 0,gd J.pay 1,gd J.pay 2,gd J.pay 3,gd J.pay 4,gd J.pay 5,gd J.pay 6,gd J.pay 7,gd J.pay 8,gd J.pay 9,gd J.pay 10,gd J.pay 11,gd J.pay 12,gd J.pay 13,gd J.pay 14,gd J.pay 15,gd J.pay 16,gd J.pay 17,gd J.pay 18,gd J.pay 19,gd J.pay 20,gd J.pay 21,gd J.pay 22,gd J.pay 23,gd J.pay 24,gd J.pay 25,.l ([]++(gd J.pay 11).rows),.i 0,.i 0,gd J.pay 26,gd J.pay 27,gd J.pay 28,gd J.pay 29,gd J.pay 30,gd J.pay 31,gd J.pay 32,gd J.pay 33,gd J.pay 34,gd J.pay 35,gd J.pay 36,gd J.pay 37,gd J.pay 38,gd J.pay 39,gd J.pay 40,gd J.pay 41,gd J.pay 42,gd J.pay 43,gd J.pay 44,gd J.pay 45,gd J.pay 46,gd J.pay 47,gd J.pay 48,gd J.pay 49,gd J.pay 50,gd J.pay 51,gd J.pay 52,gd J.pay 53,gd J.pay 54,gd J.pay 55,gd J.pay 56,gd J.pay 57,gd J.pay 58,gd J.pay 59,gd J.pay 60,gd J.pay 61,gd J.pay 9,.l ([]++(gd J.pay 11).rows)];nd O.isSome (nd (O.code==11) (ie N p q r s O))
def Dw(N:Nat)(p q r s:b8)(J:Out):Out:=let O:Out:=nx [gd J.pay 0,gd J.pay 1,gd J.pay 2,gd J.pay 3,gd J.pay 4,gd J.pay 5,gd J.pay 6,gd J.pay 7,gd J.pay 8,gd J.pay 9,gd J.pay 10,gd J.pay 11,gd J.pay 12,gd J.pay 13,gd J.pay 14,gd J.pay 15,gd J.pay 16,gd J.pay 17,gd J.pay 18,gd J.pay 19,gd J.pay 20,gd J.pay 21,gd J.pay 22,.b (ltI 60 (w64 ((w64 (((gd J.pay 26).rows.length:Int)+(dD (gd J.pay 26) (gd J.pay 28) (gd J.pay 28).rows.length)))+(bi (gd J.pay 26) (gd J.pay 11))))),.l [],.b false,gd J.pay 23,gd J.pay 24,gd J.pay 25,gd J.pay 26,gd J.pay 27,gd J.pay 28,gd J.pay 29,gd J.pay 30,gd J.pay 31,gd J.pay 32,gd J.pay 33,gd J.pay 34,gd J.pay 35,gd J.pay 36,gd J.pay 37,gd J.pay 38,gd J.pay 39,gd J.pay 40,gd J.pay 41,gd J.pay 42,gd J.pay 43,gd J.pay 44,gd J.pay 45,gd J.pay 46,gd J.pay 47,gd J.pay 48,gd J.pay 49,gd J.pay 50,gd J.pay 51,gd J.pay 52,gd J.pay 53,gd J.pay 54,gd J.pay 55,gd J.pay 56,gd J.pay 57,gd J.pay 58];nd O.isSome (nd (bq ([]++(gd O.pay 11).rows)&&true) (CN N p q r s O))
def Cj(N:Nat)(p q r s:b8)(J:Out):Out:=bif ltI 60 (w64 ((w64 (((gd J.pay 26).rows.length:Int)+(dD (gd J.pay 26) (gd J.pay 28) (gd J.pay 28).rows.length)))+(bi (gd J.pay 26) (gd J.pay 11)))) then some (1,[gd J.pay 41,gd J.pay 42,gd J.pay 43,gd J.pay 44,gd J.pay 45,gd J.pay 46,gd J.pay 47,gd J.pay 48,gd J.pay 49,.i 6]) else (Dw N p q r s J)
def ib(N:Nat)(p q r s:b8)(J:Out):Out:=nd (J.code==9) (nd (leI ((gd J.pay 28).rows.length:Int) 1000000000) (Cj N p q r s J))
def Cx(N:Nat)(p q r s:b8)(J:Out):Out:=let O:Out:=ba (ez N p q r s) N [gd J.pay 0,gd J.pay 1,gd J.pay 2,gd J.pay 3,gd J.pay 4,gd J.pay 5,gd J.pay 6,gd J.pay 7,gd J.pay 8,gd J.pay 9,gd J.pay 10,gd J.pay 11,gd J.pay 12,gd J.pay 13,gd J.pay 14,gd J.pay 15,gd J.pay 16,gd J.pay 17,gd J.pay 18,gd J.pay 19,gd J.pay 20,.i 0,.i 0,gd J.pay 21,gd J.pay 22,gd J.pay 23,gd J.pay 24,gd J.pay 25,gd J.pay 26,gd J.pay 27,gd J.pay 28,gd J.pay 29,gd J.pay 30,gd J.pay 31,gd J.pay 32,gd J.pay 33,gd J.pay 34,gd J.pay 35,gd J.pay 36,gd J.pay 37,gd J.pay 38,gd J.pay 39,gd J.pay 40,gd J.pay 41,gd J.pay 42,gd J.pay 43,gd J.pay 44,gd J.pay 45,gd J.pay 46,gd J.pay 47,gd (ddS (sub J.pay 21 9)) 0,gd (ddS (sub J.pay 21 9)) 1,gd (ddS (sub J.pay 21 9)) 2,gd (ddS (sub J.pay 21 9)) 3,gd (ddS (sub J.pay 21 9)) 4,gd (ddS (sub J.pay 21 9)) 5,gd (ddS (sub J.pay 21 9)) 6,gd (ddS (sub J.pay 21 9)) 7,gd (ddS (sub J.pay 21 9)) 8];nd O.isSome (bif O.code==1 then some (1,O.pay) else (ib N p q r s O))
def gE(N:Nat)(p q r s:b8)(J:Out):Out:=bif J.code==1 then some (1,J.pay) else nd (J.code==7) (nd (cv (sub J.pay 21 9)) (Cx N p q r s J))
def jt(N:Nat)(p q r s:b8)(J:Out):Out:=let O:Out:=ba (eD N p q r s) N [gd J.pay 0,gd J.pay 1,gd J.pay 2,gd J.pay 3,gd J.pay 4,gd J.pay 5,gd J.pay 6,gd J.pay 7,gd J.pay 8,gd J.pay 9,gd J.pay 10,gd J.pay 11,gd J.pay 12,gd J.pay 13,gd J.pay 14,gd J.pay 15,gd J.pay 16,gd J.pay 17,gd J.pay 18,gd J.pay 19,.i 0,gd J.pay 20,gd J.pay 21,gd J.pay 22,gd J.pay 23,gd J.pay 24,gd J.pay 25,gd J.pay 26,gd J.pay 27,gd J.pay 28,gd J.pay 29,gd J.pay 30,gd J.pay 31,gd J.pay 32,gd J.pay 33,gd J.pay 34,gd J.pay 35,gd J.pay 36,gd J.pay 37,gd J.pay 38,gd J.pay 39,gd J.pay 40,gd J.pay 41,gd J.pay 42,gd J.pay 43,gd J.pay 44,gd J.pay 45,gd J.pay 46];nd O.isSome (gE N p q r s O)
def jw(N:Nat)(p q r s:b8)(J:Out):Out:=nd J.isSome (bif J.code==1 then some (1,J.pay) else nd (J.code==5) (jt N p q r s J))
def jB(N:Nat)(p q r s:b8)(J:Out):Out:=let O:Out:=ba (eA N p q r s) N [gd J.pay 0,gd J.pay 1,gd J.pay 2,gd J.pay 3,gd J.pay 4,gd J.pay 5,gd J.pay 6,gd J.pay 7,gd J.pay 8,gd J.pay 9,gd J.pay 10,gd J.pay 11,gd J.pay 12,gd J.pay 13,gd J.pay 14,gd J.pay 15,gd J.pay 16,.b (!(gd J.pay 15).bool),.i 0,.i 0,gd J.pay 17,gd J.pay 18,gd J.pay 19,gd J.pay 20,gd J.pay 21,gd J.pay 22,gd J.pay 23,gd J.pay 24,gd J.pay 25,gd J.pay 26,gd J.pay 27,gd J.pay 28,gd J.pay 29,gd J.pay 30,gd J.pay 31,gd J.pay 32,gd J.pay 33,gd J.pay 34,gd (ddS (sub J.pay 17 9)) 0,gd (ddS (sub J.pay 17 9)) 1,gd (ddS (sub J.pay 17 9)) 2,gd (ddS (sub J.pay 17 9)) 3,gd (ddS (sub J.pay 17 9)) 4,gd (ddS (sub J.pay 17 9)) 5,gd (ddS (sub J.pay 17 9)) 6,gd (ddS (sub J.pay 17 9)) 7,gd (ddS (sub J.pay 17 9)) 8];(jw N p q r s O)
def zY(N:Nat)(p q r s:b8)(J:Out):Out:=bif aA (gd J.pay 23) (gd J.pay 9).int then some (1,[gd (ddS (sub J.pay 17 9)) 0,gd (ddS (sub J.pay 17 9)) 1,gd (ddS (sub J.pay 17 9)) 2,gd (ddS (sub J.pay 17 9)) 3,gd (ddS (sub J.pay 17 9)) 4,gd (ddS (sub J.pay 17 9)) 5,gd (ddS (sub J.pay 17 9)) 6,gd (ddS (sub J.pay 17 9)) 7,gd (ddS (sub J.pay 17 9)) 8,.i 3]) else (jB N p q r s J)
def Bp(N:Nat)(p q r s:b8)(J:Out):Out:=bif fV (gd J.pay 22) (gd J.pay 9).int then some (1,[gd (ddS (sub J.pay 17 9)) 0,gd (ddS (sub J.pay 17 9)) 1,gd (ddS (sub J.pay 17 9)) 2,gd (ddS (sub J.pay 17 9)) 3,gd (ddS (sub J.pay 17 9)) 4,gd (ddS (sub J.pay 17 9)) 5,gd (ddS (sub J.pay 17 9)) 6,gd (ddS (sub J.pay 17 9)) 7,gd (ddS (sub J.pay 17 9)) 8,.i 0]) else (zY N p q r s J)
def Al(N:Nat)(p q r s:b8)(J:Out):Out:=bif aA (gd J.pay 24) (gd J.pay 9).int then some (1,[gd (ddS (sub J.pay 17 9)) 0,gd (ddS (sub J.pay 17 9)) 1,gd (ddS (sub J.pay 17 9)) 2,gd (ddS (sub J.pay 17 9)) 3,gd (ddS (sub J.pay 17 9)) 4,gd (ddS (sub J.pay 17 9)) 5,gd (ddS (sub J.pay 17 9)) 6,gd (ddS (sub J.pay 17 9)) 7,gd (ddS (sub J.pay 17 9)) 8,.i 2]) else nd (leI ((gd J.pay 22).rows.length:Int) 1000000000) (Bp N p q r s J)
def gB(N:Nat)(p q r s:b8)(J:Out):Out:=bif !(gd J.pay 15).bool then some (1,[.i 0,.l [],.l [],.l [],.l [],.l [],.l [],.l [],.i 0,.i 1]) else nd (cv (sub J.pay 17 9)) (Al N p q r s J)
def jz(N:Nat)(p q r s:b8)(J:Out):Out:=let O:Out:=ba (dA N p q r s) N [gd J.pay 0,gd J.pay 1,gd J.pay 2,gd J.pay 3,gd J.pay 4,gd J.pay 5,gd J.pay 6,gd J.pay 7,gd J.pay 8,gd J.pay 9,gd J.pay 10,gd J.pay 11,gd J.pay 12,gd J.pay 13,gd J.pay 14,gd J.pay 15,.i 0,gd J.pay 16,gd J.pay 17,gd J.pay 18,gd J.pay 19,gd J.pay 20,gd J.pay 21,gd J.pay 22,gd J.pay 23,gd J.pay 24,gd J.pay 25,gd J.pay 26,gd J.pay 27,gd J.pay 28,gd J.pay 29,gd J.pay 30,gd J.pay 31,gd J.pay 32,gd J.pay 33];nd O.isSome (nd (O.code==2) (gB N p q r s O))
theorem zO(N:Nat)(p q r s:b8):aZ f4 dO N dP Tryz.f22 (.tup [.agg d7,.c (.d si)]) [⟨ag aK,p⟩,⟨ri,q⟩,⟨sd (.sl 41),r⟩,⟨sd (.sl 70),s⟩]=some (bo,let J:Out:=(fJ N p q r s);nd J.isSome (jz N p q r s J)):=by kernel_rfl
theorem anF(N:Nat)(p q r s:b8):fJ N p q r s=nx (pyA p q r s (tq p (gd q 0) (gd r 0) (gd s 0))):=by unfold fJ qe qC tq;cases aY (sub p 0 9) <;> cases inB (gd q 0).int 1 60 <;> cases leI ((gd r 0).rows.length:Int) 16 <;> rfl
theorem amO(N:Nat)(p q r s:b8)(b:Bool):jz N p q r s (nx (pyA p q r s b))=(let J:=ba (dA N p q r s) N (py0 p q r s b (.i 0));nd J.isSome (nd (J.code==2) (gB N p q r s J))):=rfl
theorem amD(N:Nat)(p q r s:b8)(b:Bool)(i:D):gB N p q r s (some (2,py0 p q r s b i))=bif !b then some (1,sub (dE ++ [.i 1]) 0 10) else nd (cv (sub p 0 9)) (bif aA (gd p 7) (gd q 0).int then some (1,sub (dpS p ++ [.i 2]) 0 10) else nd (leI ((gd p 5).rows.length:Int) 1000000000) (bif fV (gd p 5) (gd q 0).int then some (1,sub (dpS p ++ [.i 0]) 0 10) else bif aA (gd p 6) (gd q 0).int then some (1,sub (dpS p ++ [.i 3]) 0 10) else jB N p q r s (some (2,py0 p q r s b i)))):=rfl
theorem amF(N:Nat)(p q r s:b8)(b:Bool)(i:D):jB N p q r s (some (2,py0 p q r s b i))=jw N p q r s (ba (eA N p q r s) N (py3 p q r s b i (.i 0))):=rfl
theorem amV(N:Nat)(p q r s:b8)(b:Bool)(i j:D):jw N p q r s (some (5,py3 p q r s b i j))=jt N p q r s (some (5,py3 p q r s b i j)):=rfl
theorem ana(N:Nat)(p q r s:b8)(b:Bool)(i j:D):jt N p q r s (some (5,py3 p q r s b i j))=(let J:=ba (eD N p q r s) N (py5 p q r s b i j (.i 0));nd J.isSome (gE N p q r s J)):=rfl
theorem amn(N:Nat)(p q r s:b8)(b:Bool)(i j k:D):gE N p q r s (some (7,py5 p q r s b i j k))=nd (cv (sub p 0 9)) (let J:=ba (ez N p q r s) N (py7 p q r s b i j k (.i 0) (.l (gd p 4).rows) (.l (gd p 6).rows));nd J.isSome (bif J.code==1 then some (1,J.pay) else (ib N p q r s J))):=rfl
theorem anH(N:Nat)(p q r s:b8)(b:Bool)(i j k m l w:D):ib N p q r s (some (9,py7 p q r s b i j k m l w))=nd (leI ((gd p 5).rows.length:Int) 1000000000) (bif Oo p (gd s 0) then some (1,sub (dpS p ++ [.i 6]) 0 10) else nd (bq (gd s 0).rows&&true) (let J:=ba (cX N p q r s) N (py9 p q r s b i j k m l w [] false (.i 0));nd J.isSome (nd (J.code==11) (ie N p q r s J)))):=rfl
theorem anC(N:Nat)(p q r s:b8)(b:Bool)(i j k m l w:D)(h:List b8)(t:Bool)(c:D):ie N p q r s (some (11,py9 p q r s b i j k m l w h t c))=bif !t then nd (bq (h ++ [[gd q 0,.l (gd s 0).rows]])&&true) (some (1,[gd (dpS p) 0,gd (dpS p) 1,gd (dpS p) 2,gd (dpS p) 3,l,.l (h ++ [[gd q 0,.l (gd s 0).rows]]),w,gd (dpS p) 7,gd (dpS p) 8,.i 0])) else some (1,[gd (dpS p) 0,gd (dpS p) 1,gd (dpS p) 2,gd (dpS p) 3,l,.l h,w,gd (dpS p) 7,gd (dpS p) 8,.i 0]):=rfl
theorem amA{N:Nat}{p q r s:b8}{x0 x1 x2 x3 x4 x5 x6 x7 x8 V h0 d2 f1 c0 h5 a3 h3 c7 g2 d1 e0 b5 f2 c8 b0 c4 c1 e6 a5 f3 f0 a7 b2 c6 g1 c3 c9 c2 h8 a0 g3 h2 d4 d3 b1 h7 h4 c5 a2 d5 b3 b4 e7 a4 a8 Y a6 b6 J h6 Z a1 U O:D}(hN:J.rows.length<N)(h9:J.rows.length<=60) :
  ba (cX N p q r s) N [x0,x1,x2,x3,x4,x5,x6,x7,x8,V,h0,d2,f1,c0,h5,a3,h3,c7,g2,d1,e0,b5,f2,c8,.l [],.b false,b0,c4,.i 0,c1,e6,a5,f3,f0,a7,b2,c6,g1,c3,c9,c2,h8,a0,g3,h2,d4,d3,b1,h7,h4,c5,a2,d5,b3,b4,e7,a4,a8,Y,a6,b6,J,h6,Z,a1,U,O]=some (11,[x0,x1,x2,x3,x4,x5,x6,x7,x8,V,h0,d2,f1,c0,h5,a3,h3,c7,g2,d1,e0,b5,f2,c8,.l (hS J V [U,O] J.rows.length).1,.b (hS J V [U,O] J.rows.length).2,b0,c4,.i (J.rows.length:Int),c1,e6,a5,f3,f0,a7,b2,c6,g1,c3,c9,c2,h8,a0,g3,h2,d4,d3,b1,h7,h4,c5,a2,d5,b3,b4,e7,a4,a8,Y,a6,b6,J,h6,Z,a1,U,O]):=by
 have e9:=bM (L:=cX N p q r s) (st:=fun k => [x0,x1,x2,x3,x4,x5,x6,x7,x8,V,h0,d2,f1,c0,h5,a3,h3,c7,g2,d1,e0,b5,f2,c8,.l (hS J V [U,O] k).1,.b (hS J V [U,O] k).2,b0,c4,.i (k:Int),c1,e6,a5,f3,f0,a7,b2,c6,g1,c3,c9,c2,h8,a0,g3,h2,d4,d3,b1,h7,h4,c5,a2,d5,b3,b4,e7,a4,a8,Y,a6,b6,J,h6,Z,a1,U,O]) J.rows.length 9 (fun k hk=>by
  show cX N p q r s [x0,x1,x2,x3,x4,x5,x6,x7,x8,V,h0,d2,f1,c0,h5,a3,h3,c7,g2,d1,e0,b5,f2,c8,.l (hS J V [U,O] k).1,.b (hS J V [U,O] k).2,b0,c4,.i (k:Int),c1,e6,a5,f3,f0,a7,b2,c6,g1,c3,c9,c2,h8,a0,g3,h2,d4,d3,b1,h7,h4,c5,a2,d5,b3,b4,e7,a4,a8,Y,a6,b6,J,h6,Z,a1,U,O]=_;rw[qo];have hs:=ZR J V [U,O] k;rw[show hS J V [U,O] (k+1)=bif !(hS J V [U,O] k).2&&ltI V.int (gd (J.rows.getD k []) 0).int then ((hS J V [U,O] k).1 ++ [[U,O]] ++ [sub (J.rows.getD k []) 0 2],true) else ((hS J V [U,O] k).1 ++ [sub (J.rows.getD k []) 0 2],(hS J V [U,O] k).2) from rfl];generalize hS J V [U,O] k=X at *;obtain⟨X1,X2⟩:=X;have hX:X1.length<=120:=by have hs:X1.length<=2*k:=hs;omega
  dsimp only[Out.pay,Option.getD_some,Option.isSome_some];simp only[aL,aJ,aE,gX,bp,cy hk,bn hk,aF hk (show J.rows.length<=9223372036854775807 by omega),g4];cases X2 with
  | true =>simp only[l8,f5,y7,bL (show (X1 ++ [sub (J.rows.getD k []) 0 2]).length<=4294967296 by simp;omega),D2,aP]
  | false =>
   cases ltI V.int (gd (J.rows.getD k []) 0).int with
   | false =>simp only[w5,f8,f5,s8,bL (show (X1 ++ [sub (J.rows.getD k []) 0 2]).length<=4294967296 by simp;omega),D2,aP]
   | true =>
    simp only[w5,f8,s8,bL (show (X1 ++ [[U,O]]).length<=4294967296 by simp;omega),bL (show (X1 ++ [[U,O]] ++ [sub (J.rows.getD k []) 0 2]).length<=4294967296 by simp;omega),D2,aP,bn hk]) (by
  show cX N p q r s [x0,x1,x2,x3,x4,x5,x6,x7,x8,V,h0,d2,f1,c0,h5,a3,h3,c7,g2,d1,e0,b5,f2,c8,.l (hS J V [U,O] J.rows.length).1,.b (hS J V [U,O] J.rows.length).2,b0,c4,.i (J.rows.length:Int),c1,e6,a5,f3,f0,a7,b2,c6,g1,c3,c9,c2,h8,a0,g3,h2,d4,d3,b1,h7,h4,c5,a2,d5,b3,b4,e7,a4,a8,Y,a6,b6,J,h6,Z,a1,U,O]=_;rw[qo];simp only[aE,bF]) (N:=N) hN
 simp only[g9] at e9;exact e9
set_option maxHeartbeats 4000000
def lm:Ent:=(22,e4 (ag aK) ri (sd (.sl 41)) (sd (.sl 70)) fun p q r s=>(⟨.tup [.agg d7,.c (.d si)],sub (prS p (gd q 0) (gd r 0) (gd s 0)) 0 10⟩,true))
theorem zK:aw f4 lm:=wV fun p q r s h=>aq (N:=(gd r 0).rows.length+(gd s 0).rows.length+(gd p 5).rows.length+2) (ks:=dP) (ap (fC ⟨iN,fC ⟨jo,fC ⟨mm,fC ⟨dy,fC ⟨eY,fC ⟨jJ,fC ⟨tT,fC ⟨mc,fC ⟨wm,fC ⟨DV,fC ⟨uK,fC ⟨DG,fC ⟨DL,fC ⟨oY,fC ⟨wE,fC ⟨zo,fN⟩⟩⟩⟩⟩⟩⟩⟩⟩⟩⟩⟩⟩⟩⟩⟩)) Tryz.func22 fun hw=>by
 rw[zO];refine congrArg (fun x=>some (bo,x)) ?_;have a3:=dY (hw ⟨sd (.sl 41),r⟩ (by simp));have a4:=dY (hw ⟨sd (.sl 70),s⟩ (by simp));show nd (fJ _ p q r s).isSome (jz _ p q r s (fJ _ p q r s))=_;rw[anF,show (nx (pyA p q r s (tq p (gd q 0) (gd r 0) (gd s 0))):Out).isSome=true from rfl,aP,amO];generalize hN:(gd r 0).rows.length+(gd s 0).rows.length+(gd p 5).rows.length+2=N;obtain⟨i,e0⟩:=adJ (L:=dA N p q r s) (st:=fun b k=>py0 p q r s b (.i (k:Int))) (gd r 0).rows.length (fun k=>ar (sub ((gd r 0).rows.getD k []) 0 2)) 0 (fun k hk=>by
  show dA _ p q r s [_,_,_,_,_,_,_,_,_,_,_,_,_,_,_,.b true,.i (k:Int),_,_,_,_,_,_,_,_,_,_,_,_,_,_,_,_,_,_]=_;rw[kC];simp only[aE,gX,f8,cy hk,bn hk,aF hk a3,g4]) (fun k=>by
  show dA _ p q r s [_,_,_,_,_,_,_,_,_,_,_,_,_,_,_,.b false,.i (k:Int),_,_,_,_,_,_,_,_,_,_,_,_,_,_,_,_,_,_]=_;rw[kC];rfl) (by
  show dA _ p q r s [_,_,_,_,_,_,_,_,_,_,_,_,_,_,_,.b true,.i ((gd r 0).rows.length:Int),_,_,_,_,_,_,_,_,_,_,_,_,_,_,_,_,_,_]=_;rw[kC];simp only[aE,gX,f8,bF]) (gd r 0).rows.length 0 N (tq p (gd q 0) (gd r 0) (gd s 0)) (i9 _) (by omega)
 simp only[g9] at e0;rw[<- List.range_eq_range'] at e0;rw[e0];show gB N p q r s (some (2,py0 p q r s (tq p (gd q 0) (gd r 0) (gd s 0)&&tI (gd r 0)) (.i (i:Int))))=_;rw[amD];change _=some (1,sub (prS p (gd q 0) (gd r 0) (gd s 0)) 0 10);unfold prS;cases O:tq p (gd q 0) (gd r 0) (gd s 0)&&tI (gd r 0) with
 | false=>rfl
 | true =>
 rw[a9] at O;obtain⟨O,a8⟩:=O;unfold tq at O;simp only[a9] at O;obtain⟨hsh,hin,a6,hwo⟩:=O;obtain⟨_,V,U,Z,_⟩:=cD hsh;have V:(gd p 4).rows.length<=40:=V;have U:(gd p 5).rows.length<=60:=U;have Z:(gd p 6).rows.length<=60:=Z;have a7:=tN hwo;have h5:leI ((gd p 5).rows.length:Int) 1000000000=true:=bb (by omega);rw[dB hsh,h5,l8,f5,f5,aP,aP];cases aA (gd p 7) (gd q 0).int with
 | true=>rfl
 | false =>
 cases fV (gd p 5) (gd q 0).int with
 | true=>rfl
 | false =>
 cases aA (gd p 6) (gd q 0).int with
 | true=>rfl
 | false =>
 simp only[f5];rw[amF];have e3:=cU (L:=eA N p q r s) (st:=fun k=>py3 p q r s true (.i (i:Int)) (.i (k:Int))) (gd r 0).rows.length (fun k=>holds (gd p 4) (gd q 0) (sub ((gd r 0).rows.getD k []) 0 2) (.i 1)) (sub (dpS p ++ [.i 7]) 0 10) 3 (fun k hk=>by
  show eA _ p q r s [_,_,_,_,_,_,_,_,_,_,_,_,_,_,_,_,_,_,_,.i (k:Int),_,_,_,_,_,_,_,_,_,_,_,_,_,_,_,_,_,_,_,_,_,_,_,_,_,_,_]=_;rw[qK];simp only[aE,cy hk,bn hk,aF hk a3,g4];cases holds (gd p 4) (gd q 0) (sub ((gd r 0).rows.getD k []) 0 2) (.i 1) <;> rfl) (by
  show eA _ p q r s [_,_,_,_,_,_,_,_,_,_,_,_,_,_,_,_,_,_,_,.i ((gd r 0).rows.length:Int),_,_,_,_,_,_,_,_,_,_,_,_,_,_,_,_,_,_,_,_,_,_,_,_,_,_,_]=_;rw[qK];simp only[aE,bF]) (N:=N) (by omega)
 simp only[g9] at e3;rw[e3];change _=some (1,sub (bif jT p (gd q 0) (gd r 0) then _ else _) 0 10);rw[show ((List.range (gd r 0).rows.length).all fun k=>holds (gd p 4) (gd q 0) (sub ((gd r 0).rows.getD k []) 0 2) (.i 1))=jT p (gd q 0) (gd r 0) from rfl];cases jT p (gd q 0) (gd r 0) with
 | false=>rfl
 | true =>
 simp only[f8];rw[amV,ana];have e5:=cU (L:=eD N p q r s) (st:=fun k=>py5 p q r s true (.i (i:Int)) (.i ((gd r 0).rows.length:Int)) (.i (k:Int))) (gd s 0).rows.length (fun k=>pd p (dV (gd s 0) k)) (sub (dpS p ++ [.i 4]) 0 10) 5 (fun k hk=>by
  show eD _ p q r s [_,_,_,_,_,_,_,_,_,_,_,_,_,_,_,_,_,_,_,_,.i (k:Int),_,_,_,_,_,_,_,_,_,_,_,_,_,_,_,_,_,_,_,_,_,_,_,_,_,_,_]=_;rw[qd];rw[show pd [gd p 0,gd p 1,gd p 2,gd p 3,gd p 4,gd p 5,gd p 6,gd p 7,gd p 8] [gd ((gd s 0).rows.getD (D.i (k:Int)).int.toNat []) 0,.i (w64 ((gd ((gd s 0).rows.getD (D.i (k:Int)).int.toNat []) 0).int+1))]=pd p (dV (gd s 0) k) from rfl];simp only[aE,cy hk,bn hk,aF hk a4,g4];cases pd p (dV (gd s 0) k) <;> rfl) (by
  show eD _ p q r s [_,_,_,_,_,_,_,_,_,_,_,_,_,_,_,_,_,_,_,_,.i ((gd s 0).rows.length:Int),_,_,_,_,_,_,_,_,_,_,_,_,_,_,_,_,_,_,_,_,_,_,_,_,_,_,_]=_;rw[qd];simp only[aE,bF]) (N:=N) (by omega)
 simp only[g9] at e5;rw[e5];rw[show ((List.range (gd s 0).rows.length).all fun k=>pd p (dV (gd s 0) k))=kM p (gd s 0) from rfl];cases kM p (gd s 0) with
 | false=>rfl
 | true =>
 simp only[f8];show gE N p q r s (some (7,py5 p q r s true (.i (i:Int)) (.i ((gd r 0).rows.length:Int)) (.i ((gd s 0).rows.length:Int))))=_;rw[amn,dB hsh,aP];have Y:=acM (L:=ez N p q r s) (st:=fun k=>py7 p q r s true (.i (i:Int)) (.i ((gd r 0).rows.length:Int)) (.i ((gd s 0).rows.length:Int)) (.i (k:Int)) (cT p (gd q 0) (gd s 0) k).1 (cT p (gd q 0) (gd s 0) k).2) (n:=(gd s 0).rows.length) (fun k=>(gN p (gd q 0) (gd s 0) k).int != 0) (fun k=>sub (dpS p ++ [.i (cG [gN p (gd q 0) (gd s 0) k])]) 0 10) 7 (fun k hk=>by
  show ez _ p q r s [_,_,_,_,_,_,_,_,_,_,_,_,_,_,_,_,_,_,_,_,_,_,.i (k:Int),_,_,_,_,_,_,_,_,_,_,_,_,_,_,_,_,_,_,_,_,_,_,_,_,_,_,_,_,_,_,_,_,_,_,_,_]=_;rw[qJ];simp only[aE,cy hk,bn hk,aF hk a4,g4,h5,aP];obtain⟨_,a0⟩:=RB p (gd q 0) (gd s 0) V k;obtain⟨a1,a2⟩:=Da (cT p (gd q 0) (gd s 0) k).1 (aB (gd p 5)) (gd q 0) (dV (gd s 0) k) (.i 2);rw[cT];unfold gN;rw[show sub (dI (cT p (gd q 0) (gd s 0) k).1 (aB (gd p 5)) (gd q 0) [gd ((gd s 0).rows.getD k []) 0,.i (w64 ((gd ((gd s 0).rows.getD k []) 0).int+1))] (.i 2)) 0 3=sub (dI (cT p (gd q 0) (gd s 0) k).1 (aB (gd p 5)) (gd q 0) (dV (gd s 0) k) (.i 2)) 0 3 from rfl];generalize dI (cT p (gd q 0) (gd s 0) k).1 (aB (gd p 5)) (gd q 0) (dV (gd s 0) k) (.i 2)=J at *;rw[show gd (sub J 0 3) 0=gd J 0 from rfl,show gd (sub J 0 3) 1=gd J 1 from rfl,show gd (sub J 0 3) 2=gd J 2 from rfl];simp only[bb (show ((gd J 0).rows.length:Int)<=100000000 by omega),bb (show ((gd J 1).rows.length:Int)<=100000000 by omega),bb (show ((cT p (gd q 0) (gd s 0) k).2.rows.length:Int)<=100000000 by omega),v6,aP];cases (gd J 2).int != 0 <;> rfl) (by
  show ez _ p q r s [_,_,_,_,_,_,_,_,_,_,_,_,_,_,_,_,_,_,_,_,_,_,.i ((gd s 0).rows.length:Int),_,_,_,_,_,_,_,_,_,_,_,_,_,_,_,_,_,_,_,_,_,_,_,_,_,_,_,_,_,_,_,_,_,_,_,_]=_;rw[qJ];simp only[aE,bF]) (gd s 0).rows.length 0 N (i9 _) (by omega)
 simp only[g9] at Y;rw[<- List.range_eq_range'] at Y;rw[show (cT p (gd q 0) (gd s 0) 0).1=.l (gd p 4).rows from rfl,show (cT p (gd q 0) (gd s 0) 0).2=.l (gd p 6).rows from rfl] at Y;rw[Y];cases (List.range (gd s 0).rows.length).find? fun k=>(gN p (gd q 0) (gd s 0) k).int != 0 with
 | some k=>rfl
 | none =>
 show ib N p q r s (some (9,py7 p q r s true (.i (i:Int)) (.i ((gd r 0).rows.length:Int)) (.i ((gd s 0).rows.length:Int)) (.i ((gd s 0).rows.length:Int)) (cT p (gd q 0) (gd s 0) (gd s 0).rows.length).1 (cT p (gd q 0) (gd s 0) (gd s 0).rows.length).2))=some (1,sub (ajJ p (gd q 0) (gd s 0)) 0 10);unfold ajJ;rw[anH,h5,aP];cases Oo p (gd s 0) with
 | true=>rfl
 | false =>
 generalize cT p (gd q 0) (gd s 0) (gd s 0).rows.length=lw;obtain⟨l,w⟩:=lw;simp only[f5,bL (show (gd s 0).rows.length<=4294967296 by omega),D2,aP];have hH:(gd (dpS p) 5).rows.length<=60:=o8 (fX _ _ _) U;have a5:(gd (dpS p) 5).rows.length<N:=by have:(gd (dpS p) 5).rows.length<=(gd p 5).rows.length:=fX _ _ _;omega
 have e9:ba (cX N p q r s) N (py9 p q r s true (.i (i:Int)) (.i ((gd r 0).rows.length:Int)) (.i ((gd s 0).rows.length:Int)) (.i ((gd s 0).rows.length:Int)) l w [] false (.i 0))=some (11,py9 p q r s true (.i (i:Int)) (.i ((gd r 0).rows.length:Int)) (.i ((gd s 0).rows.length:Int)) (.i ((gd s 0).rows.length:Int)) l w (hS (gd (dpS p) 5) (gd q 0) [gd q 0,.l (gd s 0).rows] (gd (dpS p) 5).rows.length).1 (hS (gd (dpS p) 5) (gd q 0) [gd q 0,.l (gd s 0).rows] (gd (dpS p) 5).rows.length).2 (.i ((gd (dpS p) 5).rows.length:Int))):=amA a5 hH;rw[e9];show ie N p q r s (some (11,py9 p q r s true (.i (i:Int)) (.i ((gd r 0).rows.length:Int)) (.i ((gd s 0).rows.length:Int)) (.i ((gd s 0).rows.length:Int)) l w _ _ _))=_;rw[anC];unfold abF;have hs:=ZR (gd (dpS p) 5) (gd q 0) [gd q 0,.l (gd s 0).rows] (gd (dpS p) 5).rows.length;rw[bL (show ((hS (gd (dpS p) 5) (gd q 0) [gd q 0,.l (gd s 0).rows] (gd (dpS p) 5).rows.length).1 ++ [[gd q 0,.l (gd s 0).rows]]).length<=4294967296 by simp;omega)];cases (hS (gd (dpS p) 5) (gd q 0) [gd q 0,.l (gd s 0).rows] (gd (dpS p) 5).rows.length).2 <;> rfl
set_option maxHeartbeats 1000000
abbrev nk:=find [pP,il,fF,fR,qX,gq,kX,uB,ou,th]
abbrev ns:=[0,1,2,3,5,6,7,8,9,10,11,12,13,14,15,16,18,25,37,48,59,75,79,85,3000013,3000021]
def gb(N:Nat)(p q r:b8):b8->Out:=bc f4 nk N ns Tryz.f10 (.tup [.agg d7,.c (.d (.sl 108)),.c (.d si)]) [⟨ag aK,p⟩,⟨ri,q⟩,⟨ag ay,r⟩] 0
def oV(N:Nat)(p q r:b8)(x0 x1 x2 x3 x4 x5 x6 x7 x8 x9 e0 a2 c1 c8 f0 a4 e7 f2 c7 a1 b0 c5 c4 Y f3 c3 O d3 b5 c9 b2 J c6 c0 a7 b3 V U d2 Z d1 g1 a0 d5 e6 a6 a5 b1 f1 e9 d4 a3 a8 b4 c2 b6:D):List b8:= [[gd (sub (cg [(gd (J.rows.getD O.int.toNat []) 1),(gd (J.rows.getD O.int.toNat []) 2)] [V,U]) 0 3) 2],[.i 0],[gd (sub (cg [(gd (J.rows.getD O.int.toNat []) 1),(gd (J.rows.getD O.int.toNat []) 2)] [V,U]) 0 3) 2],[gd (sub (cg [(gd (J.rows.getD O.int.toNat []) 1),(gd (J.rows.getD O.int.toNat []) 2)] [V,U]) 0 3) 0,gd (sub (cg [(gd (J.rows.getD O.int.toNat []) 1),(gd (J.rows.getD O.int.toNat []) 2)] [V,U]) 0 3) 1],[gd (sub (cg [(gd (J.rows.getD O.int.toNat []) 1),(gd (J.rows.getD O.int.toNat []) 2)] [V,U]) 0 3) 0,gd (sub (cg [(gd (J.rows.getD O.int.toNat []) 1),(gd (J.rows.getD O.int.toNat []) 2)] [V,U]) 0 3) 1,gd (sub (cg [(gd (J.rows.getD O.int.toNat []) 1),(gd (J.rows.getD O.int.toNat []) 2)] [V,U]) 0 3) 2],[gd (sub (cg [(gd (J.rows.getD O.int.toNat []) 1),(gd (J.rows.getD O.int.toNat []) 2)] [V,U]) 0 3) 0,gd (sub (cg [(gd (J.rows.getD O.int.toNat []) 1),(gd (J.rows.getD O.int.toNat []) 2)] [V,U]) 0 3) 1,gd (sub (cg [(gd (J.rows.getD O.int.toNat []) 1),(gd (J.rows.getD O.int.toNat []) 2)] [V,U]) 0 3) 2],[(gd (J.rows.getD O.int.toNat []) 1),(gd (J.rows.getD O.int.toNat []) 2)],[V,U],[gd (J.rows.getD O.int.toNat []) 0,gd (J.rows.getD O.int.toNat []) 1,gd (J.rows.getD O.int.toNat []) 2,gd (J.rows.getD O.int.toNat []) 3],[x0,x1,x2,x3,x4,x5,x6,x7,x8],[x9],[e0,a2],[c1],[c8],[f0],[a4],[e7],[f2],[c7],[a1],[b0],[c5],[c4],[Y],[f3],[c3],[O],[.b (ltI O.int (J.rows.length:Int))],[.i 0],[d3,b5,c9,b2,J,c6,c0,a7,b3],[V,U],[d2,Z,d1,g1,a0,d5,e6,a6,a5],[b1,f1,e9,d4,a3,a8,b4,c2,b6],[gd (J.rows.getD O.int.toNat []) 0,gd (J.rows.getD O.int.toNat []) 1,gd (J.rows.getD O.int.toNat []) 2,gd (J.rows.getD O.int.toNat []) 3],[gd (sub (cg [(gd (J.rows.getD O.int.toNat []) 1),(gd (J.rows.getD O.int.toNat []) 2)] [V,U]) 0 3) 0,gd (sub (cg [(gd (J.rows.getD O.int.toNat []) 1),(gd (J.rows.getD O.int.toNat []) 2)] [V,U]) 0 3) 1]]
theorem sD(N:Nat)(p q r:b8)(x0 x1 x2 x3 x4 x5 x6 x7 x8 x9 e7 b4 c7 d2 f1 b5 f0 f2 d1 b3 c2 c9 c8 b0 f3 g2 U e0 c5 d3 c3 O a8 c6 c1 c4 a7 a6 d5 b1 d4 g1 b2 e6 e9 c0 b6 a0 a5 a4 a3 V Y Z a2 a1:D):(gb N p q r) [x0,x1,x2,x3,x4,x5,x6,x7,x8,x9,e7,b4,c7,d2,f1,b5,f0,f2,d1,b3,c2,c9,c8,b0,f3,g2,U,e0,c5,d3,c3,O,a8,c6,c1,c4,a7,a6,d5,b1,d4,g1,b2,e6,e9,c0,b6,a0,a5,a4,a3,V,Y,Z,a2,a1] =
 bif ltI U.int (O.rows.length:Int) then nd (al U.int O.rows.length) (ndN 6 (ec (oV N p q r x0 x1 x2 x3 x4 x5 x6 x7 x8 x9 e7 b4 c7 d2 f1 b5 f0 f2 d1 b3 c2 c9 c8 b0 f3 g2 U e0 c5 d3 c3 O a8 c6 c1 c4 a7 a6 d5 b1 d4 g1 b2 e6 e9 c0 b6 a0 a5 a4 a3 V Y Z a2 a1) (oV N p q r x0 x1 x2 x3 x4 x5 x6 x7 x8 x9 e7 b4 c7 d2 f1 b5 f0 f2 d1 b3 c2 c9 c8 b0 f3 g2 U e0 c5 d3 c3 O a8 c6 c1 c4 a7 a6 d5 b1 d4 g1 b2 e6 e9 c0 b6 a0 a5 a4 a3 V Y Z a2 a1)) (bif !(gd (sub (cg [(gd (O.rows.getD U.int.toNat []) 1),(gd (O.rows.getD U.int.toNat []) 2)] [a7,a6]) 0 3) 2).bool then nx [x0,x1,x2,x3,x4,x5,x6,x7,x8,x9,e7,b4,c7,d2,f1,b5,f0,f2,d1,b3,c2,c9,c8,b0,f3,g2,.i (w64 (U.int+1)),e0,c5,d3,c3,O,a8,c6,c1,c4,a7,a6,d5,b1,d4,g1,b2,e6,e9,c0,b6,a0,a5,a4,a3,V,Y,Z,a2,a1]
 else nd (leI (a8.rows.length:Int) 1000000000) (bif fV a8 (gd (O.rows.getD U.int.toNat []) 0).int then (let J:Out:=(nx [x0,x1,x2,x3,x4,x5,x6,x7,x8,x9,e7,b4,c7,d2,f1,b5,f0,f2,d1,b3,c2,c9,c8,b0,f3,.b true,U,.b (ltI U.int (O.rows.length:Int)),.i 0,gd (sub (cg [(gd (O.rows.getD U.int.toNat []) 1),(gd (O.rows.getD U.int.toNat []) 2)] [a7,a6]) 0 3) 2,.b (!(gd (sub (cg [(gd (O.rows.getD U.int.toNat []) 1),(gd (O.rows.getD U.int.toNat []) 2)] [a7,a6]) 0 3) 2).bool),.b (fV a8 (gd (O.rows.getD U.int.toNat []) 0).int),e0,c5,d3,c3,O,a8,c6,c1,c4,a7,a6,d5,b1,d4,g1,b2,e6,e9,c0,b6,a0,a5,a4,a3,V,Y,Z,a2,a1,gd (O.rows.getD U.int.toNat []) 0,gd (O.rows.getD U.int.toNat []) 1,gd (O.rows.getD U.int.toNat []) 2,gd (O.rows.getD U.int.toNat []) 3,gd (sub (cg [(gd (O.rows.getD U.int.toNat []) 1),(gd (O.rows.getD U.int.toNat []) 2)] [a7,a6]) 0 3) 0,gd (sub (cg [(gd (O.rows.getD U.int.toNat []) 1),(gd (O.rows.getD U.int.toNat []) 2)] [a7,a6]) 0 3) 1]);
  nd J.isSome (nx [gd J.pay 0,gd J.pay 1,gd J.pay 2,gd J.pay 3,gd J.pay 4,gd J.pay 5,gd J.pay 6,gd J.pay 7,gd J.pay 8,gd J.pay 9,gd J.pay 10,gd J.pay 11,gd J.pay 12,gd J.pay 13,gd J.pay 14,gd J.pay 15,gd J.pay 16,gd J.pay 17,gd J.pay 18,gd J.pay 19,gd J.pay 20,gd J.pay 21,gd J.pay 22,gd J.pay 23,gd J.pay 24,gd J.pay 25,.i (w64 ((gd J.pay 26).int+1)),gd J.pay 32,gd J.pay 33,gd J.pay 34,gd J.pay 35,gd J.pay 36,gd J.pay 37,gd J.pay 38,gd J.pay 39,gd J.pay 40,gd J.pay 41,gd J.pay 42,gd J.pay 43,gd J.pay 44,gd J.pay 45,gd J.pay 46,gd J.pay 47,gd J.pay 48,gd J.pay 49,gd J.pay 50,gd J.pay 51,gd J.pay 52,gd J.pay 53,gd J.pay 54,gd J.pay 55,gd J.pay 56,gd J.pay 57,gd J.pay 58,gd J.pay 59,gd J.pay 60]))
 else nd (leI (V.rows.length:Int) 100000000&&(leI (Z.rows.length:Int) 100000000&&leI ([[gd (O.rows.getD U.int.toNat []) 0]].length:Int) 100000000)) (nx [x0,x1,x2,x3,x4,x5,x6,x7,x8,x9,e7,b4,c7,d2,f1,b5,f0,f2,d1,b3,c2,c9,c8,b0,f3,g2,.i (w64 (U.int+1)),e0,c5,d3,c3,O,a8,c6,c1,c4,a7,a6,d5,b1,d4,g1,b2,e6,e9,c0,b6,gd (sub (eo [a0,a5,a4,a3,V,Y,Z,a2,a1] (.l [[gd (O.rows.getD U.int.toNat []) 0]])) 0 9) 0,gd (sub (eo [a0,a5,a4,a3,V,Y,Z,a2,a1] (.l [[gd (O.rows.getD U.int.toNat []) 0]])) 0 9) 1,gd (sub (eo [a0,a5,a4,a3,V,Y,Z,a2,a1] (.l [[gd (O.rows.getD U.int.toNat []) 0]])) 0 9) 2,gd (sub (eo [a0,a5,a4,a3,V,Y,Z,a2,a1] (.l [[gd (O.rows.getD U.int.toNat []) 0]])) 0 9) 3,gd (sub (eo [a0,a5,a4,a3,V,Y,Z,a2,a1] (.l [[gd (O.rows.getD U.int.toNat []) 0]])) 0 9) 4,Y,gd (sub (eo [a0,a5,a4,a3,V,Y,Z,a2,a1] (.l [[gd (O.rows.getD U.int.toNat []) 0]])) 0 9) 6,gd (sub (eo [a0,a5,a4,a3,V,Y,Z,a2,a1] (.l [[gd (O.rows.getD U.int.toNat []) 0]])) 0 9) 7,gd (sub (eo [a0,a5,a4,a3,V,Y,Z,a2,a1] (.l [[gd (O.rows.getD U.int.toNat []) 0]])) 0 9) 8]))))
 else ex 0 [x0,x1,x2,x3,x4,x5,x6,x7,x8,x9,e7,b4,c7,d2,f1,b5,f0,f2,d1,b3,c2,c9,c8,b0,f3,g2,U,e0,c5,d3,c3,O,a8,c6,c1,c4,a7,a6,d5,b1,d4,g1,b2,e6,e9,c0,b6,a0,a5,a4,a3,V,Y,Z,a2,a1]:=by kernel_rfl
theorem DS(N:Nat)(p q r:b8):aZ f4 nk N ns Tryz.f10 (.tup [.agg d7,.c (.d (.sl 108)),.c (.d si)]) [⟨ag aK,p⟩,⟨ri,q⟩,⟨ag ay,r⟩]=some (bo,
 bif (au (sub p 0 9) [gd q 0] (sub r 0 2)) != 0 then nd (cv (sub p 0 9)||(au (sub p 0 9) [gd q 0] (sub r 0 2))==1) (some (1,[gd (sub (cM (sub p 0 9) (au (sub p 0 9) [gd q 0] (sub r 0 2))) 0 9) 0,gd (sub (cM (sub p 0 9) (au (sub p 0 9) [gd q 0] (sub r 0 2))) 0 9) 1,gd (sub (cM (sub p 0 9) (au (sub p 0 9) [gd q 0] (sub r 0 2))) 0 9) 2,gd (sub (cM (sub p 0 9) (au (sub p 0 9) [gd q 0] (sub r 0 2))) 0 9) 3,gd (sub (cM (sub p 0 9) (au (sub p 0 9) [gd q 0] (sub r 0 2))) 0 9) 4,gd (sub (cM (sub p 0 9) (au (sub p 0 9) [gd q 0] (sub r 0 2))) 0 9) 5,gd (sub (cM (sub p 0 9) (au (sub p 0 9) [gd q 0] (sub r 0 2))) 0 9) 6,gd (sub (cM (sub p 0 9) (au (sub p 0 9) [gd q 0] (sub r 0 2))) 0 9) 7,gd (sub (cM (sub p 0 9) (au (sub p 0 9) [gd q 0] (sub r 0 2))) 0 9) 8,.l [],.i (au (sub p 0 9) [gd q 0] (sub r 0 2))]))
 else nd (cv (sub p 0 9)) (bif !(ax (gd p 1) (sub r 0 2)) then some (1,[gd (dpS p) 0,gd (dpS p) 1,gd (dpS p) 2,gd (dpS p) 3,gd (dpS p) 4,gd (dpS p) 5,gd (dpS p) 6,gd (dpS p) 7,gd (dpS p) 8,.l [],.i 4])
 else bif !(gd (sub (bX (gd p 2) (sub r 0 2) (.b true)) 0 2) 1).bool then some (1,[gd (dpS p) 0,gd (dpS p) 1,gd (dpS p) 2,gd (dpS p) 3,gd (dpS p) 4,gd (dpS p) 5,gd (dpS p) 6,gd (dpS p) 7,gd (dpS p) 8,.l [],.i 6])
 else (let J:Out:=(nx [gd p 0,gd p 1,gd p 2,gd p 3,gd p 4,gd p 5,gd p 6,gd p 7,gd p 8,gd q 0,gd r 0,gd r 1,.i 0,.i 0,.i 0,.l [],.i 0,.l [],.i (au (sub p 0 9) [gd q 0] (sub r 0 2)),.b ((au (sub p 0 9) [gd q 0] (sub r 0 2)) != 0),.i 0,.b (!(ax (gd p 1) (sub r 0 2))),gd (sub (bX (gd p 2) (sub r 0 2) (.b true)) 0 2) 0,gd (sub (bX (gd p 2) (sub r 0 2) (.b true)) 0 2) 1,.b (!(gd (sub (bX (gd p 2) (sub r 0 2) (.b true)) 0 2) 1).bool),.b false,gd p 0,gd p 1,gd p 2,gd p 3,gd p 4,gd p 5,gd p 6,gd p 7,gd p 8,gd r 0,gd r 1,.i 0,.l [],.l [],.l [],.l [],.l [],.l [],.l [],.i 0,gd (dpS p) 0,gd (dpS p) 1,gd (sub (bX (gd p 2) (sub r 0 2) (.b true)) 0 2) 0,gd (dpS p) 3,gd (dpS p) 4,gd (dpS p) 5,gd (dpS p) 6,gd (dpS p) 7,gd q 0]);
  nd J.isSome ((let O:=ba (gb N p q r) N [gd J.pay 0,gd J.pay 1,gd J.pay 2,gd J.pay 3,gd J.pay 4,gd J.pay 5,gd J.pay 6,gd J.pay 7,gd J.pay 8,gd J.pay 9,gd J.pay 10,gd J.pay 11,gd J.pay 12,gd J.pay 13,gd J.pay 14,gd J.pay 15,gd J.pay 16,gd J.pay 17,gd J.pay 18,gd J.pay 19,gd J.pay 20,gd J.pay 21,gd J.pay 22,gd J.pay 23,gd J.pay 24,gd J.pay 25,.i 0,gd J.pay 26,gd J.pay 27,gd J.pay 28,gd J.pay 29,gd J.pay 30,gd J.pay 31,gd J.pay 32,gd J.pay 33,gd J.pay 34,gd J.pay 35,gd J.pay 36,gd J.pay 37,gd J.pay 38,gd J.pay 39,gd J.pay 40,gd J.pay 41,gd J.pay 42,gd J.pay 43,gd J.pay 44,gd J.pay 45,gd J.pay 46,gd J.pay 47,gd J.pay 48,gd J.pay 49,gd J.pay 50,gd J.pay 51,gd J.pay 52,gd J.pay 53,gd J.pay 54]
  nd O.isSome (nd (O.code==2) (bif (gd O.pay 25).bool then some (1,[gd O.pay 47,gd O.pay 48,gd O.pay 49,gd O.pay 50,gd O.pay 51,gd O.pay 52,gd O.pay 53,gd O.pay 54,gd O.pay 55,gd O.pay 17,.i 5])
  else nd (leI ((gd O.pay 30).rows.length:Int) 1000000000) (some (1,[gd O.pay 47,gd O.pay 48,gd O.pay 49,gd O.pay 50,gd O.pay 51,gd O.pay 52,gd O.pay 53,gd O.pay 54,gd O.pay 55,fg (gd O.pay 30) (sub O.pay 36 2) true,.i 0]))))))))):=by kernel_rfl
def np:Ent:=(10,e3 (ag aK) ri (ag ay) fun p q r=>(⟨.tup [.agg d7,.c (.d (.sl 108)),.c (.d si)],sub (TO p (gd q 0) r) 0 11⟩,true))
theorem EM:aw f4 np:=em fun p q r h=>aq (N:=(gd p 4).rows.length+1) (ks:=ns) (ap (fC ⟨nV,fC ⟨iK,fC ⟨eY,fC ⟨fB,fC ⟨vk,fC ⟨fP,fC ⟨kR,fC ⟨tT,fC ⟨oY,fC ⟨xf,fN⟩⟩⟩⟩⟩⟩⟩⟩⟩⟩)) Tryz.func10 fun hw=>by
 rw[DS];unfold TO;rw[sb];cases hc:(au (sub p 0 9) [gd q 0] (sub r 0 2)) != 0 with
 | true =>rw[f8,f8,aP];rfl
 | false =>
 obtain⟨hsh,a3⟩:=KU hc;rw[dB hsh];obtain⟨a4,J,U,O,a0,_⟩:=cD hsh;have J:(gd p 4).rows.length<=40:=J;have U:(gd p 5).rows.length<=60:=U;have O:(gd p 6).rows.length<=60:=O;rw[f5,f5,aP];have V:(au (sub p 0 9) [gd q 0] (sub r 0 2))=0:=by simpa using hc
 rw[V];cases hh:ax (gd p 1) (sub r 0 2) with
 | false=>rfl
 | true =>
 rw[l8,f5,f5];cases ht:(gd (sub (bX (gd p 2) (sub r 0 2) (.b true)) 0 2) 1).bool with
 | false=>rfl
 | true =>
 rw[l8,f5,f5];have e:=bM (L:=gb ((gd p 4).rows.length+1) p q r) (fun k => [gd p 0,gd p 1,gd p 2,gd p 3,gd p 4,gd p 5,gd p 6,gd p 7,gd p 8,gd q 0,gd r 0,gd r 1,.i 0,.i 0,.i 0,.l [],.i 0,.l [],.i 0,.b false,.i 0,.b (!(ax (gd p 1) (sub r 0 2))),gd (sub (bX (gd p 2) (sub r 0 2) (.b true)) 0 2) 0,gd (sub (bX (gd p 2) (sub r 0 2) (.b true)) 0 2) 1,.b (!(gd (sub (bX (gd p 2) (sub r 0 2) (.b true)) 0 2) 1).bool),.b (jW (.l (gd p 4).rows) (.l (gd p 6).rows) (gd p 4) (jV r) (mQ p) k).2.2,.i (k:Int),gd p 0,gd p 1,gd p 2,gd p 3,gd p 4,gd p 5,gd p 6,gd p 7,gd p 8,gd r 0,gd r 1,.i 0,.l [],.l [],.l [],.l [],.l [],.l [],.l [],.i 0,gd p 0,.l (gd p 1).rows,gd (sub (bX (gd p 2) (sub r 0 2) (.b true)) 0 2) 0,.l (gd p 3).rows,(jW (.l (gd p 4).rows) (.l (gd p 6).rows) (gd p 4) (jV r) (mQ p) k).1,gd (dpS p) 5,(jW (.l (gd p 4).rows) (.l (gd p 6).rows) (gd p 4) (jV r) (mQ p) k).2.1,.l (gd p 7).rows,gd q 0]) (gd p 4).rows.length 0 (fun k hk=>?_) ?_ (N:=(gd p 4).rows.length+1) (by omega)
 ·simp only[g9,jW] at e;rw[hh,ht,l8] at e;dsimp only at e ⊢;dsimp only[Out.pay,Out.code,Option.getD_some,Option.isSome_some];simp only[aL,aJ,kg,aP];rw[ue e]
  case e=>rfl
  dsimp only[Out.pay,Out.code,Option.getD_some,Option.isSome_some];simp only[aL,aJ];unfold afG;have Y:leI ((gd p 3).rows.length:Int) 1000000000=true:=bb (by have:=(cD hsh).2.2.2.2.2.1;simp only[aN,a9,leI,f7] at this;have:=this.2;have h3:((gd p 3).rows.length:Int)<=60:=this;omega);cases (jW (.l (gd p 4).rows) (.l (gd p 6).rows) (gd p 4) (jV r) (mQ p) (gd p 4).rows.length).2.2
  ·show some (bo,nd (leI ((gd p 3).rows.length:Int) 1000000000) _)=_;rw[Y];rfl
  ·rfl
 ·show gb _ p q r [_,_,_,_,_,_,_,_,_,_,_,_,_,_,_,_,_,_,_,_,_,_,_,_,_,_,.i (k:Int),_,_,_,_,_,_,_,_,_,_,_,_,_,_,_,_,_,_,_,_,_,_,_,_,_,_,_,_,_]=_;rw[sD];obtain⟨Z,a2⟩:=UA (.l (gd p 4).rows) (.l (gd p 6).rows) (gd p 4) (jV r) (mQ p) k;have Z:_<=(gd p 4).rows.length:=Z;have a2:_<=(gd p 6).rows.length+k:=a2;simp only[aE,cy hk,bn hk,g4,di,kg,aP,aF hk (show (gd p 4).rows.length<=9223372036854775807 by omega),bb (show ((gd p 5).rows.length:Int)<=1000000000 by omega),bb (show ((jW (.l (gd p 4).rows) (.l (gd p 6).rows) (gd p 4) (jV r) (mQ p) k).1.rows.length:Int)<=100000000 by omega),bb (show ((jW (.l (gd p 4).rows) (.l (gd p 6).rows) (gd p 4) (jV r) (mQ p) k).2.1.rows.length:Int)<=100000000 by omega)];rw[jW,jV,mQ];cases (gd (sub (cg [gd ((gd p 4).rows.getD k []) 1,gd ((gd p 4).rows.getD k []) 2] [gd r 0,gd r 1]) 0 3) 2).bool
  ·rfl
  ·cases fV (gd p 5) (gd ((gd p 4).rows.getD k []) 0).int
   ·rfl
   ·simp only[f8,f5,l8,Out.pay,w3,w7,aL,aJ,aE,kg,aP,aF hk (show (gd p 4).rows.length<=9223372036854775807 by omega)]
 ·show gb _ p q r [_,_,_,_,_,_,_,_,_,_,_,_,_,_,_,_,_,_,_,_,_,_,_,_,_,_,.i ((gd p 4).rows.length:Int),_,_,_,_,_,_,_,_,_,_,_,_,_,_,_,_,_,_,_,_,_,_,_,_,_,_,_,_,_]=_;rw[sD];simp only[aE,bF]
open Go.RowKit Go.Lib
abbrev De:=find [jE]
abbrev Cr:=[0,1,4,5,13]
def Dz(N:Nat)(p q:b8):Out:=
 nd (bq ([]++(gd q 0).rows)&&true) (bif !(aY [gd p 0,.l ([]++(gd q 0).rows),.l [],.l [],.l [],.l [],.l [],.l [],.i 0]) then some (1,[.i 0,.l [],.l [],.l [],.l [],.l [],.l [],.l [],.i 0])
 else some (1,[gd p 0,.l ([]++(gd q 0).rows),.l [],.l [],.l [],.l [],.l [],.l [],.i 0]))
theorem Ky(N:Nat)(p q:b8):aZ f4 De N Cr Tryz.f226 (.one (.agg d7)) [⟨ri,p⟩,⟨sd (.sl 41),q⟩]=some (bo,Dz N p q):=by kernel_rfl
def Wx(n z:D):b8:=bif aY [n,.l z.rows,.l [],.l [],.l [],.l [],.l [],.l [],.i 0] then[n,.l z.rows,.l [],.l [],.l [],.l [],.l [],.l [],.i 0] else dE
def EH:Ent:=(226,e2 ri (sd (.sl 41)) fun p q=>(⟨.one (.agg d7),sub (sub (Wx (gd p 0) (gd q 0)) 0 9) 0 9⟩,leI ((gd q 0).rows.length:Int) 1000))
theorem NA:aw f4 EH:=bj fun p q h=>aq (N:=0) (ks:=Cr) (ap (fC ⟨iN,fN⟩)) Tryz.func226 fun hw=>by rw[Ky];have h:leI ((gd q 0).rows.length:Int) 1000=true:=h;have hn:((gd q 0).rows.length:Int)<=1000:=j9 h;refine congrArg (fun x=>some (bo,x)) ?_;show _=some (1,sub (sub (Wx (gd p 0) (gd q 0)) 0 9) 0 9);unfold Dz;rw[show bq ([]++(gd q 0).rows)=true from bL (by show (gd q 0).rows.length<=_;omega)];unfold Wx;rw[C7];cases aY [gd p 0,.l (gd q 0).rows,.l [],.l [],.l [],.l [],.l [],.l [],.i 0] <;> rfl
abbrev sR:=find [pP,jr,vr,il,fF,fR,mD,qX,EJ,yh]
abbrev rP:=[0,1,2,3,4,6,8,9,10,11,12,13,14,15,33,35,42,54,60,95,3000002]
def kZ(N:Nat)(p q r s:b8)(J:Out):Out:=
 bif (gd J.pay 18).bool then bif 1 != 0 then nd (cv (sub J.pay 19 9)||1==1) (some (1,sub (sub (cM (sub J.pay 19 9) 1) 0 9) 0 9 ++ [.i 1]))
  else nd (cv (sub J.pay 19 9)) (bif (gd J.pay 9).int==(gd J.pay 27).int then bif ax (gd J.pay 20) (sub J.pay 28 2) then some (1,sub (sub (bG (sub J.pay 19 9)) 0 9) 0 9 ++ [.i 0])
  else bif (gd J.pay 9).int==(gd J.pay 27).int then some (1,sub (sub (bG (sub J.pay 19 9)) 0 9) 0 9 ++ [.i 6])
  else bif jv (gd J.pay 20) (sub J.pay 28 2) then some (1,sub (sub (bG (sub J.pay 19 9)) 0 9) 0 9 ++ [.i 4])
  else bif !(gd (sub (bX (gd J.pay 20) (sub J.pay 28 2) (.b true)) 0 2) 1).bool then some (1,sub (sub (bG (sub J.pay 19 9)) 0 9) 0 8 ++ [gd J.pay 9,.i 6])
  else bif !(gd (sub (kY (gd J.pay 22) (gd J.pay 12)) 0 2) 1).bool then some (1,sub (sub (bG (sub J.pay 19 9)) 0 9) 0 8 ++ [gd J.pay 9,.i 6])
  else nd (leI ((gd J.pay 24).rows.length:Int) 1000000000) (bif ltI 60 (w64 (((gd (sub (kY (gd J.pay 22) (gd J.pay 12)) 0 2) 0).rows.length:Int)+(dD (gd J.pay 22) (gd J.pay 24) (gd J.pay 24).rows.length))) then some (1,sub (sub (bG (sub J.pay 19 9)) 0 9) 0 8 ++ [gd J.pay 9,.i 6])
  else some (1,[gd (sub (bG (sub J.pay 19 9)) 0 9) 0,gd (sub (bX (gd J.pay 20) (sub J.pay 28 2) (.b true)) 0 2) 0,gd (sub (bG (sub J.pay 19 9)) 0 9) 2,gd (sub (kY (gd J.pay 22) (gd J.pay 12)) 0 2) 0]++(sub (sub (bG (sub J.pay 19 9)) 0 9) 4 4 ++ [gd J.pay 9,.i 0])))
  else bif (gd J.pay 9).int==(gd J.pay 27).int then some (1,sub (sub (bG (sub J.pay 19 9)) 0 9) 0 9 ++ [.i 6])
  else bif jv (gd J.pay 20) (sub J.pay 28 2) then some (1,sub (sub (bG (sub J.pay 19 9)) 0 9) 0 9 ++ [.i 4])
  else bif !(gd (sub (bX (gd J.pay 20) (sub J.pay 28 2) (.b true)) 0 2) 1).bool then some (1,sub (sub (bG (sub J.pay 19 9)) 0 9) 0 8 ++ [gd J.pay 9,.i 6])
  else bif !(gd (sub (kY (gd J.pay 22) (gd J.pay 12)) 0 2) 1).bool then some (1,sub (sub (bG (sub J.pay 19 9)) 0 9) 0 8 ++ [gd J.pay 9,.i 6])
  else nd (leI ((gd J.pay 24).rows.length:Int) 1000000000) (bif ltI 60 (w64 (((gd (sub (kY (gd J.pay 22) (gd J.pay 12)) 0 2) 0).rows.length:Int)+(dD (gd J.pay 22) (gd J.pay 24) (gd J.pay 24).rows.length))) then some (1,sub (sub (bG (sub J.pay 19 9)) 0 9) 0 8 ++ [gd J.pay 9,.i 6])
  else some (1,[gd (sub (bG (sub J.pay 19 9)) 0 9) 0,gd (sub (bX (gd J.pay 20) (sub J.pay 28 2) (.b true)) 0 2) 0,gd (sub (bG (sub J.pay 19 9)) 0 9) 2,gd (sub (kY (gd J.pay 22) (gd J.pay 12)) 0 2) 0]++(sub (sub (bG (sub J.pay 19 9)) 0 9) 4 4 ++ [gd J.pay 9,.i 0]))))
  else bif (gd J.pay 17).int != 0 then nd (cv (sub J.pay 19 9)||(gd J.pay 17).int==1) (some (1,sub (sub (cM (sub J.pay 19 9) (gd J.pay 17).int) 0 9) 0 9 ++ [gd J.pay 17]))
  else nd (cv (sub J.pay 19 9)) (bif (gd J.pay 9).int==(gd J.pay 27).int then bif ax (gd J.pay 20) (sub J.pay 28 2) then some (1,sub (sub (bG (sub J.pay 19 9)) 0 9) 0 9 ++ [.i 0])
  else bif (gd J.pay 9).int==(gd J.pay 27).int then some (1,sub (sub (bG (sub J.pay 19 9)) 0 9) 0 9 ++ [.i 6])
  else bif jv (gd J.pay 20) (sub J.pay 28 2) then some (1,sub (sub (bG (sub J.pay 19 9)) 0 9) 0 9 ++ [.i 4])
  else bif !(gd (sub (bX (gd J.pay 20) (sub J.pay 28 2) (.b true)) 0 2) 1).bool then some (1,sub (sub (bG (sub J.pay 19 9)) 0 9) 0 8 ++ [gd J.pay 9,.i 6])
  else bif !(gd (sub (kY (gd J.pay 22) (gd J.pay 12)) 0 2) 1).bool then some (1,sub (sub (bG (sub J.pay 19 9)) 0 9) 0 8 ++ [gd J.pay 9,.i 6])
  else nd (leI ((gd J.pay 24).rows.length:Int) 1000000000) (bif ltI 60 (w64 (((gd (sub (kY (gd J.pay 22) (gd J.pay 12)) 0 2) 0).rows.length:Int)+(dD (gd J.pay 22) (gd J.pay 24) (gd J.pay 24).rows.length))) then some (1,sub (sub (bG (sub J.pay 19 9)) 0 9) 0 8 ++ [gd J.pay 9,.i 6])
  else some (1,[gd (sub (bG (sub J.pay 19 9)) 0 9) 0,gd (sub (bX (gd J.pay 20) (sub J.pay 28 2) (.b true)) 0 2) 0,gd (sub (bG (sub J.pay 19 9)) 0 9) 2,gd (sub (kY (gd J.pay 22) (gd J.pay 12)) 0 2) 0]++(sub (sub (bG (sub J.pay 19 9)) 0 9) 4 4 ++ [gd J.pay 9,.i 0])))
  else bif (gd J.pay 9).int==(gd J.pay 27).int then some (1,sub (sub (bG (sub J.pay 19 9)) 0 9) 0 9 ++ [.i 6])
  else bif jv (gd J.pay 20) (sub J.pay 28 2) then some (1,sub (sub (bG (sub J.pay 19 9)) 0 9) 0 9 ++ [.i 4])
  else bif !(gd (sub (bX (gd J.pay 20) (sub J.pay 28 2) (.b true)) 0 2) 1).bool then some (1,sub (sub (bG (sub J.pay 19 9)) 0 9) 0 8 ++ [gd J.pay 9,.i 6])
  else bif !(gd (sub (kY (gd J.pay 22) (gd J.pay 12)) 0 2) 1).bool then some (1,sub (sub (bG (sub J.pay 19 9)) 0 9) 0 8 ++ [gd J.pay 9,.i 6])
  else nd (leI ((gd J.pay 24).rows.length:Int) 1000000000) (bif ltI 60 (w64 (((gd (sub (kY (gd J.pay 22) (gd J.pay 12)) 0 2) 0).rows.length:Int)+(dD (gd J.pay 22) (gd J.pay 24) (gd J.pay 24).rows.length))) then some (1,sub (sub (bG (sub J.pay 19 9)) 0 9) 0 8 ++ [gd J.pay 9,.i 6])
  else some (1,[gd (sub (bG (sub J.pay 19 9)) 0 9) 0,gd (sub (bX (gd J.pay 20) (sub J.pay 28 2) (.b true)) 0 2) 0,gd (sub (bG (sub J.pay 19 9)) 0 9) 2,gd (sub (kY (gd J.pay 22) (gd J.pay 12)) 0 2) 0]++(sub (sub (bG (sub J.pay 19 9)) 0 9) 4 4 ++ [gd J.pay 9,.i 0]))))
def fc(N:Nat)(p q r s:b8):Out:=
 (let J:Out:=(bif (au (sub p 0 9) [gd q 0] (sub r 0 2)) != 1 then bif !(aN (gd s 0)) then nx (sub p 0 9++([gd q 0,gd r 0,gd r 1,gd s 0,.i 0,.i 0,.i 0,.i 0,.i (au (sub p 0 9) [gd q 0] (sub r 0 2)),.b true]++(sub p 0 9 ++ [gd r 0,gd r 1,.i 0,.l [],.l [],.l [],.l [],.l [],.l [],.l [],.i 0])))
  else nd (leI ((gd s 0).rows.length:Int) 1000000000) (nx (sub p 0 9++([gd q 0,gd r 0,gd r 1,gd s 0,.i 0,.i 0,.i 0,.i 0,.i (au (sub p 0 9) [gd q 0] (sub r 0 2)),.b (ltI 0 ((fg (gd s 0) (sub r 0 2) false).rows.length:Int))]++(sub p 0 9 ++ [gd r 0,gd r 1,.i 0,.l [],.l [],.l [],.l [],.l [],.l [],.l [],.i 0]))))
  else nx (sub p 0 9++([gd q 0,gd r 0,gd r 1,gd s 0,.i 0,.i 0,.i 0,.i 0,.i (au (sub p 0 9) [gd q 0] (sub r 0 2)),.b false]++(sub p 0 9 ++ [gd r 0,gd r 1,.i 0,.l [],.l [],.l [],.l [],.l [],.l [],.l [],.i 0]))));
  nd J.isSome (kZ N p q r s J))
theorem Bm(N:Nat)(p q r s:b8):aZ f4 sR N rP Tryz.f31 (.tup [.agg d7,.c (.d si)]) [⟨ag aK,p⟩,⟨ri,q⟩,⟨ag ay,r⟩,⟨sd (.sl 108),s⟩]=some (bo,fc N p q r s):=by kernel_rfl
def aiA(z:D):Bool:=leI (z.rows.length:Int) 0
def LQ(k q:D)(l:b8):Prop:=(gd l 9).int≠1->SOk (sub l 0 9)/\(gd l 8=k\/gd l 8=q)
theorem abT{b:Bool}(h:(!b)=false):b=true:=by
 cases b
 ·cases h
 ·rfl
theorem akU{k q:D}{l:b8}(h:(gd l 9).int=1):LQ k q l:=fun h1=>absurd h h1
theorem YF{p:b8}(s:SOk (sub p 0 9)){k q:D}(e:gd p 8=k)(c:D):LQ k q (dpS p ++ [c]):=fun _=>⟨gF s,.inl e⟩
theorem agp{p:b8}{q:D}{r:b8}{k:D}(e:gd p 8=k):LQ k q (sub (cM (sub p 0 9) (au (sub p 0 9) [q] (sub r 0 2))) 0 9 ++ [.i (au (sub p 0 9) [q] (sub r 0 2))]):=fun h=>by have h:au (sub p 0 9) [q] (sub r 0 2)≠1:=h;obtain⟨s,_⟩:=vS h;unfold cM;rw[show (au (sub p 0 9) [q] (sub r 0 2)==1)=false from v8.2 h];exact⟨gF s,.inl e⟩
theorem amR{p:b8}(s:SOk (sub p 0 9)){k q:D}(V:inB q.int 0 1000000=true)(c:D):LQ k q (sub (dpS p) 0 8 ++ [q,c]):=fun _ =>
 have O:∀r∈(gd p 4).rows,LOk (gd p 1) (.l (gd p 6).rows) (gd p 7) r:=fun r J=>⟨(s.lo r J).rg,(s.lo r J).nw,(s.lo r J).ne⟩
 have h:=Tx s (F:=.l (gd p 2).rows) (L:=.l (gd p 4).rows) (W:=.l (gd p 6).rows) (K:=(gd p 4).rows) rfl s.frz (fun r J=>s.fr r J) s.lk O (fun _ J _=>J) s.w (fun m U=>.inl U) V
 ⟨h,.inr rfl⟩
@[irreducible] def dQ(p:b8)(q:D)(r:b8)(s:D):b8:=sub (fc (0) p [q] r [s]).pay 0 10
theorem oR(p q r s:b8)(h:(aiA (gd s 0))=true):GG (fun c l=>c=1/\l=sub l 0 10/\(LQ (gd p 8) (gd q 0) l)) (fc (0) p q r s):=by
 have h:((gd s 0).rows.length:Int)<=0:=j9 h;have hs:(gd s 0).rows = []:=L2.1 (by omega);unfold fc;have key:∀l,sub l 19 9=sub p 0 9/\gd l 12=gd s 0/\sub l 28 2=sub r 0 2/\gd l 17=.i (au (sub p 0 9) [gd q 0] (sub r 0 2))/\gd l 9=gd q 0/\(gd l 18).bool=false->GG (fun c l=>c=1/\l=sub l 0 10/\LQ (gd p 8) (gd q 0) l) (kZ 0 p q r s (some (0,l))):=by
  rintro l ⟨O,l2,l3,l4,l5,l6⟩;have a6:gd (sub l 19 9) 8=gd p 8:=by rw[O];rfl
  refine ch (fun V=>ch (fun Y=>gnd ?_ (cu ⟨rfl,aX _,?_⟩)) (fun Y=>gnd ?_ (ch (fun c3=>ch (fun c4=>cu ⟨rfl,aX _,?_⟩) (fun c4=>ch (fun c5=>cu ⟨rfl,aX _,?_⟩) (fun c5=>ch (fun c6=>cu ⟨rfl,aX _,?_⟩) (fun c6=>ch (fun c7=>cu ⟨rfl,aX _,?_⟩) (fun c7=>ch (fun c8=>cu ⟨rfl,aX _,?_⟩) (fun c8=>gnd ?_ (ch (fun c9=>cu ⟨rfl,aX _,?_⟩) (fun c9=>cu ⟨rfl,aX _,?_⟩)))))))) (fun c3=>ch (fun b2=>cu ⟨rfl,aX _,?_⟩) (fun b2=>ch (fun a8=>cu ⟨rfl,aX _,?_⟩) (fun a8=>ch (fun a0=>cu ⟨rfl,aX _,?_⟩) (fun a0=>ch (fun b4=>cu ⟨rfl,aX _,?_⟩) (fun b4=>gnd ?_ (ch (fun a5=>cu ⟨rfl,aX _,?_⟩) (fun a5=>cu ⟨rfl,aX _,?_⟩)))))))))) (fun V=>ch (fun b1=>gnd ?_ (cu ⟨rfl,aX _,?_⟩)) (fun b1=>gnd ?_ (ch (fun d4=>ch (fun a2=>cu ⟨rfl,aX _,?_⟩) (fun a2=>ch (fun d2=>cu ⟨rfl,aX _,?_⟩) (fun d2=>ch (fun b3=>cu ⟨rfl,aX _,?_⟩) (fun b3=>ch (fun d5=>cu ⟨rfl,aX _,?_⟩) (fun d5=>ch (fun b6=>cu ⟨rfl,aX _,?_⟩) (fun b6=>gnd ?_ (ch (fun d3=>cu ⟨rfl,aX _,?_⟩) (fun d3=>cu ⟨rfl,aX _,?_⟩)))))))) (fun d4=>ch (fun b5=>cu ⟨rfl,aX _,?_⟩) (fun b5=>ch (fun c0=>cu ⟨rfl,aX _,?_⟩) (fun c0=>ch (fun a3=>cu ⟨rfl,aX _,?_⟩) (fun a3=>ch (fun a4=>cu ⟨rfl,aX _,?_⟩) (fun a4=>gnd ?_ (ch (fun d1=>cu ⟨rfl,aX _,?_⟩) (fun d1=>cu ⟨rfl,aX _,?_⟩))))))))))
  all_goals try exact absurd (l6.symm.trans V) J4
  all_goals try exact akU rfl
  all_goals try
   (show (cv (sub l 19 9)||(gd l 17).int==1)=true
    rw[O,l4];exact sb p [gd q 0] r)
  all_goals try
   (show LQ (gd p 8) (gd q 0) (sub (cM (sub l 19 9) (gd l 17).int) 0 9 ++ [.i (gd l 17).int])
    rw[O,l4];exact agp rfl)
  all_goals
   have hz:(au (sub p 0 9) [gd q 0] (sub r 0 2) != 0)=false:=by have hh:((gd l 17).int != 0)=false:= ‹((gd (Out.pay (some (0,l))) 17).int != 0)=false›;rw[l4] at hh;exact hh
   have b0:au (sub p 0 9) [gd q 0] (sub r 0 2)≠1:=fun e=>by rw[e] at hz;cases hz
   obtain⟨U,J,_⟩:=vS b0;have J:=US J;have a7:gd (sub l 19 9) 5=gd p 5:=by rw[O];rfl
   have p5:(gd p 5).rows.length<=60:=pf U.h fun r hr=>(U.h1 r hr).tx
   rw[<- O] at U;rw[<- l5] at J;have Z:SOk (sub (sub l 19 9) 0 9):=U;have a1:=dB ((cQ _).2 Z)
   try rw[<- l5]
   first
   | exact a1
   | (show leI ((gd (sub l 19 9) 5).rows.length:Int) 1000000000=true
      rw[a7];exact bb (by omega))
   | exact YF Z a6 _
   | exact amR Z J _
   | (have ej:gd (sub (kY (gd (sub l 19 9) 3) (gd l 12)) 0 2) 0=.l (gd (sub l 19 9) 3).rows:=by show D.l (bif Oc (gd (sub l 19 9) 3) (gd l 12) then (zf (gd (sub l 19 9) 3) (gd l 12) (gd l 12).rows.length).rows else[])=_;have hj:Oc (gd (sub l 19 9) 3) (gd l 12)=true:=abT ‹(!(gd (sub (kY (gd (Out.pay (some (0,l))) 22) (gd (Out.pay (some (0,l))) 12)) 0 2) 1).bool)=false›;rw[hj,l2,hs];rfl
      have hg:iQ (gd (sub l 19 9) 1) (sub l 28 2) (.b true)=true:=abT ‹(!(gd (sub (bX (gd (Out.pay (some (0,l))) 20) (sub (Out.pay (some (0,l))) 28 2) (.b true)) 0 2) 1).bool)=false›;intro _;show SOk [gd (sub l 19 9) 0,gd (bX (gd (sub l 19 9) 1) (sub l 28 2) (.b true)) 0,.l (gd (sub l 19 9) 2).rows,gd (sub (kY (gd (sub l 19 9) 3) (gd l 12)) 0 2) 0,.l (gd (sub l 19 9) 4).rows,gd (dpS (sub l 19 9)) 5,.l (gd (sub l 19 9) 6).rows,.l (gd (sub l 19 9) 7).rows,gd l 9]/\_;rw[ej];exact⟨alq Z hg J,.inr rfl⟩)
 refine gjs (K:=kZ 0 p q r s) (aex (fun V=>aex (fun Y=>pS (key _ ⟨rfl,rfl,rfl,rfl,rfl,?_⟩)) (fun Y=>km ?_ (pS (key _ ⟨rfl,rfl,rfl,rfl,rfl,?_⟩)))) (fun V=>pS (key _ ⟨rfl,rfl,rfl,rfl,rfl,?_⟩)))
 all_goals first
  | exact bb (by omega)
  | rfl
  | exact absurd Y (by rw[show aN (gd s 0)=true from by unfold aN;rw[hs];rfl];decide)
  | (show ltI 0 ((fg (gd s 0) (sub r 0 2) false).rows.length:Int)=false;unfold fg;rw[hs];cases aN (gd s 0)&&ar (sub (sub r 0 2) 0 2) <;> rfl)
theorem Cw{p:b8}{q:D}{r:b8}{s:D}(h:(aiA s)=true):LQ (gd p 8) q (dQ p q r s):=by unfold dQ;exact (io (oR p [q] r [s] h)).2
theorem Cc(N:Nat)(p q r s:b8):fc N p q r s=fc N p [gd q 0] r [gd s 0]:=by kernel_rfl
def sG:Ent:=(31,e4 (ag aK) ri (ag ay) (sd (.sl 108)) fun p q r s=>(⟨.tup [.agg d7,.c (.d si)],dQ p (gd q 0) r (gd s 0)⟩,aiA (gd s 0)))
theorem AT:aw f4 sG:=wV fun p q r s h=>aq (N:=0) (ks:=rP) (ap (fC ⟨nV,fC ⟨iB,fC ⟨zp,fC ⟨iK,fC ⟨eY,fC ⟨fB,fC ⟨mi,fC ⟨vk,fC ⟨Nw,fC ⟨wE,fN⟩⟩⟩⟩⟩⟩⟩⟩⟩⟩)) Tryz.func31 fun hw=>by rw[Bm];exact congrArg (fun x=>some (bo,x)) (((Cc _ p q r s).trans (io (oR p [gd q 0] r [gd s 0] h)).1).trans (by unfold dQ;exact rfl))
abbrev qP:=find [pP,il,fF,mD,gq,kX,fR,qO,vr]
abbrev qN:=[0,1,2,3,5,6,7,8,9,10,11,13,14,15,16,17,23,40,46,71,92,3000007,3000012]
def xD(N:Nat)(p q r:b8):b8->Out:=bc f4 qP N qN Tryz.f54 (.tup [.agg d7,.c (.d si)]) [⟨ag aK,p⟩,⟨ri,q⟩,⟨ag ay,r⟩] 0
def da(J O V U:D):b8:=cg [(gd (O.rows.getD J.int.toNat []) 1),(gd (O.rows.getD J.int.toNat []) 2)] [V,U]
def sI(N:Nat)(p q r:b8)(y:b8)(J:Out):Out:=
 nx (sub J.pay 0 21++([.i (w64 ((gd J.pay 21).int+1))]++sub J.pay 24 29))
def sU(N:Nat)(p q r:b8)(y:b8):List b8:= [[gd (sub (cg [(gd ((gd y 26).rows.getD (gd y 21).int.toNat []) 1),(gd ((gd y 26).rows.getD (gd y 21).int.toNat []) 2)] [gd y 31,gd y 32]) 0 3) 2],[.i 0],[gd (sub (cg [(gd ((gd y 26).rows.getD (gd y 21).int.toNat []) 1),(gd ((gd y 26).rows.getD (gd y 21).int.toNat []) 2)] [gd y 31,gd y 32]) 0 3) 2],[gd (sub (cg [(gd ((gd y 26).rows.getD (gd y 21).int.toNat []) 1),(gd ((gd y 26).rows.getD (gd y 21).int.toNat []) 2)] [gd y 31,gd y 32]) 0 3) 0,gd (sub (cg [(gd ((gd y 26).rows.getD (gd y 21).int.toNat []) 1),(gd ((gd y 26).rows.getD (gd y 21).int.toNat []) 2)] [gd y 31,gd y 32]) 0 3) 1],sub (sub (cg [(gd ((gd y 26).rows.getD (gd y 21).int.toNat []) 1),(gd ((gd y 26).rows.getD (gd y 21).int.toNat []) 2)] [gd y 31,gd y 32]) 0 3) 0 3,sub (sub (cg [(gd ((gd y 26).rows.getD (gd y 21).int.toNat []) 1),(gd ((gd y 26).rows.getD (gd y 21).int.toNat []) 2)] [gd y 31,gd y 32]) 0 3) 0 3,[(gd ((gd y 26).rows.getD (gd y 21).int.toNat []) 1),(gd ((gd y 26).rows.getD (gd y 21).int.toNat []) 2)],[gd y 31,gd y 32],sub ((gd y 26).rows.getD (gd y 21).int.toNat []) 0 4,[.l [[.l (gd y 26).rows,.i (gd y 21).int]]],[gd y 21],[gd y 26],[.i 0],sub y 0 9,[gd y 9],[gd y 10,gd y 11],[gd y 12],[gd y 13],[gd y 14],[gd y 15],[gd y 16],[gd y 17],[gd y 18],[gd y 19],[gd y 20],[gd y 21],[.b (ltI (gd y 21).int ((gd y 26).rows.length:Int))],sub y 22 9,[gd y 31,gd y 32],sub y 33 9,sub y 42 9,[gd (sub (cg [(gd ((gd y 26).rows.getD (gd y 21).int.toNat []) 1),(gd ((gd y 26).rows.getD (gd y 21).int.toNat []) 2)] [gd y 31,gd y 32]) 0 3) 0,gd (sub (cg [(gd ((gd y 26).rows.getD (gd y 21).int.toNat []) 1),(gd ((gd y 26).rows.getD (gd y 21).int.toNat []) 2)] [gd y 31,gd y 32]) 0 3) 1]]
theorem MQ(N:Nat)(p q r:b8)(y:b8):(xD N p q r) (sub y 0 51) =
 bif ltI (gd y 21).int ((gd y 26).rows.length:Int) then nd ((al (gd y 21).int (gd y 26).rows.length)&&true) (ndN 6 (((al (gd y 21).int (gd y 26).rows.length)&&true)&&(ec (sU N p q r y) (sU N p q r y))) ((let J:Out:=(bif (gd y 20).bool then nx (sub y 0 20++([.b true,gd y 21,.b (ltI (gd y 21).int ((gd y 26).rows.length:Int)),gd (sub (da (gd y 21) (gd y 26) (gd y 31) (gd y 32)) 0 3) 2]++(sub y 22 29 ++ [gd (sub (da (gd y 21) (gd y 26) (gd y 31) (gd y 32)) 0 3) 0,gd (sub (da (gd y 21) (gd y 26) (gd y 31) (gd y 32)) 0 3) 1])))
  else nx (sub y 0 20++([gd (sub (da (gd y 21) (gd y 26) (gd y 31) (gd y 32)) 0 3) 2,gd y 21,.b (ltI (gd y 21).int ((gd y 26).rows.length:Int)),gd (sub (da (gd y 21) (gd y 26) (gd y 31) (gd y 32)) 0 3) 2]++(sub y 22 29 ++ [gd (sub (da (gd y 21) (gd y 26) (gd y 31) (gd y 32)) 0 3) 0,gd (sub (da (gd y 21) (gd y 26) (gd y 31) (gd y 32)) 0 3) 1]))));
  nd J.isSome (sI N p q r y J))))
 else ex 0 (sub y 0 51):=by kernel_rfl
def xy(J:Out):b8:=sub (bX (gd J.pay 23) (sub J.pay 31 2) (.b false)) 0 2
def vJ(J:Out):b8:=sub (bX (gd J.pay 24) (sub J.pay 31 2) (.b false)) 0 2
def wt(N:Nat)(p q r:b8)(J:Out):Out:=
 bif !(ax (gd J.pay 24) (sub J.pay 31 2)) then some (1,sub J.pay 42 9 ++ [.i 4])
  else bif (gd J.pay 20).bool then some (1,sub J.pay 42 9 ++ [.i 4])
  else bif !(gd (xy J) 1).bool then some (1,sub J.pay 42 9 ++ [.i 6])
  else bif !(gd (vJ J) 1).bool then some (1,sub J.pay 42 9 ++ [.i 6])
  else nd (leI ((gd J.pay 25).rows.length:Int) 1000000000) (some (1,[gd J.pay 42,gd (xy J) 0,gd (vJ J) 0,fg (gd J.pay 25) (sub J.pay 31 2) false]++(sub J.pay 46 4 ++ [gd J.pay 9,.i 0])))
def ga(N:Nat)(p q r:b8)(O:Out):Out:=
 (let J:=ba (xD N p q r) N (sub O.pay 0 21++([.i 0]++sub O.pay 21 29));
  nd J.isSome (nd (J.code==2) (wt N p q r J)))
def mf(N:Nat)(p q r:b8):Out:=
 bif (au (sub p 0 9) [gd q 0] (sub r 0 2)) != 0 then nd (cv (sub p 0 9)||(au (sub p 0 9) [gd q 0] (sub r 0 2))==1) (some (1,sub (sub (cM (sub p 0 9) (au (sub p 0 9) [gd q 0] (sub r 0 2))) 0 9) 0 9 ++ [.i (au (sub p 0 9) [gd q 0] (sub r 0 2))]))
 else nd (cv (sub p 0 9)) (bif (gd q 0).int==(gd p 8).int then bif !(jv (gd p 1) (sub r 0 2)) then some (1,sub (dpS p) 0 9 ++ [.i 0])
 else (let J:Out:=(nx (sub p 0 9++([gd q 0,gd r 0,gd r 1,.i 0,.i 0,.i 0,.i 0,.i (au (sub p 0 9) [gd q 0] (sub r 0 2)),.b ((au (sub p 0 9) [gd q 0] (sub r 0 2)) != 0),.i 0,.b (!(jv (gd p 1) (sub r 0 2))),.b false]++(sub p 0 9++([gd r 0,gd r 1,.i 0,.l [],.l [],.l [],.l [],.l [],.l [],.l [],.i 0]++sub (dpS p) 0 9)))));
  nd J.isSome (ga N p q r J))
 else (let J:Out:=(nx (sub p 0 9++([gd q 0,gd r 0,gd r 1,.i 0,.i 0,.i 0,.i 0,.i (au (sub p 0 9) [gd q 0] (sub r 0 2)),.b ((au (sub p 0 9) [gd q 0] (sub r 0 2)) != 0),.i 0,.b false,.b false]++(sub p 0 9++([gd r 0,gd r 1,.i 0,.l [],.l [],.l [],.l [],.l [],.l [],.l [],.i 0]++sub (dpS p) 0 9)))));
  nd J.isSome (ga N p q r J)))
theorem Jl(N:Nat)(p q r:b8):aZ f4 qP N qN Tryz.f54 (.tup [.agg d7,.c (.d si)]) [⟨ag aK,p⟩,⟨ri,q⟩,⟨ag ay,r⟩]=some (bo,mf N p q r):=by kernel_rfl
theorem Nm(p q r l:b8)(s0:SOk (sub p 0 9))(ha:ar (sub r 0 2)=true)(hq:inB (gd q 0).int 0 1000000=true)(b2:sub l 21 9=sub p 0 9)(b0:sub l 30 2=sub r 0 2)(e9:gd l 9=gd q 0)(a8:sub l 41 9=dpS p)(b4:gd l 20=.b false):GG (fun c l=>c=1/\l=sub l 0 10/\LQ (gd p 8) (gd q 0) l) (ga 62 p q r (some (0,l))):=by
 have b3:(gd p 4).rows.length<=40:=((bU (gd p 4)).1 s0.lk).2.2;have b5:(gd p 3).rows.length<=60:=((dq (gd p 3)).1 s0.st).2.2;have a5:=((bU (gd p 4)).1 s0.lk).1;unfold ga;refine git (K:=wt 62 p q r) (c:=2) (fun x=>sub x 22 9=sub p 0 9/\sub x 31 2=sub r 0 2/\gd x 9=gd q 0/\sub x 42 9=dpS p/\((gd x 20).bool=false->∀j,j<(gd p 4).rows.length->jV r ((gd p 4).rows.getD j [])=false)) ?_ ?_
 ·refine tO (I:=fun k s=>s=sub s 0 51/\(gd s 21).int=(k:Int)/\sub s 22 9=sub p 0 9/\sub s 31 2=sub r 0 2/\gd s 9=gd q 0/\sub s 42 9=dpS p/\((gd s 20).bool=false->∀j,j<k->jV r ((gd p 4).rows.getD j [])=false)) (gd p 4).rows.length (fun k s hs=>?_) 62 0 _ ⟨aX _,rfl,b2,b0,e9,a8,fun _ j hj=>absurd hj (D5 j)⟩ (by omega) (y5 _);obtain⟨e,hi,U,O,h9,V,hm⟩:=hs;have a0:gd s 26=gd p 4:=congrArg (fun x=>gd x 4) U;have r0:gd s 31=gd r 0:=congrArg (fun x=>gd x 0) O;have r1:gd s 32=gd r 1:=congrArg (fun x=>gd x 1) O;have hin:ltI (gd s 21).int ((gd s 26).rows.length:Int)=true->k<(gd p 4).rows.length:=fun J=>by have J:(gd s 21).int<((gd s 26).rows.length:Int):=j9 J;rw[a0] at J;omega
  have a3:ltI (gd s 21).int ((gd s 26).rows.length:Int)=true->al (gd s 21).int (gd s 26).rows.length=true:=fun J=>by rw[hi,a0];exact bP (hin J)
  have hw:ltI (gd s 21).int ((gd s 26).rows.length:Int)=true->w64 ((gd s 21).int+1)=((k+1:Nat):Int):=fun J=>by have:=hin J;rw[br (by omega) (by omega)];omega
  have a7:(gd (sub (da (gd s 21) (gd s 26) (gd s 31) (gd s 32)) 0 3) 2).bool=jV r ((gd p 4).rows.getD k []):=by unfold da jV;rw[a0,r0,r1,hi,g4]
  refine grd e (geq (MQ _ _ _ _ s) (ch (fun Y=>gnd ?_ (ans ?_ (gjs (K:=sI _ _ _ _ _) (aex (fun c2=>pS (cu (.inl ⟨rfl,hin Y,aX _,hw Y,U,O,h9,V,?_⟩))) (fun c2=>pS (cu (.inl ⟨rfl,hin Y,aX _,hw Y,U,O,h9,V,?_⟩))))))) (fun Y=>cu (.inr ⟨by decide,rfl,U,O,h9,V,fun Z j hj=>?_⟩))))
  all_goals first
   | exact yU (a3 Y) rfl
   | exact yU (yU (a3 Y) rfl) (di _)
   | skip
  ·exact fun Z=>absurd (show true=false from Z) (by decide)
  ·intro Z j hj;have Z:(gd (sub (da (gd s 21) (gd s 26) (gd s 31) (gd s 32)) 0 3) 2).bool=false:=Z;rw[a7] at Z;by_cases e:j=k
   ·rw[e];exact Z
   ·exact hm c2 j (by omega)
  ·refine hm Z j ?_;have J:¬(gd s 21).int<((gd s 26).rows.length:Int):=J6 Y;rw[a0] at J;omega
 ·rintro x ⟨U,O,h9,V,hm⟩;have a2:gd x 23=gd p 1:=congrArg (fun x=>gd x 1) U;have a1:gd x 24=gd p 2:=congrArg (fun x=>gd x 2) U;have a4:gd x 25=gd p 3:=congrArg (fun x=>gd x 3) U;refine ch (fun Y=>cu ⟨rfl,aX _,?_⟩) (fun Y=>ch (fun c2=>cu ⟨rfl,aX _,?_⟩) (fun c2=>ch (fun c3=>cu ⟨rfl,aX _,?_⟩) (fun c3=>ch (fun c4=>cu ⟨rfl,aX _,?_⟩) (fun c4=>gnd ?_ (cu ⟨rfl,aX _,?_⟩)))))
  all_goals first
   | (show LQ _ _ (sub x 42 9++_);rw[V];exact YF s0 rfl _)
   | (show leI ((gd x 25).rows.length:Int) 1000000000=true;rw[a4];exact bb (by omega))
   | skip
  intro _;have hO:iQ (gd x 23) (sub x 31 2) (.b false)=true:=abT c3;have hF:iQ (gd x 24) (sub x 31 2) (.b false)=true:=abT c4;refine⟨?_,.inr h9⟩;have b1:sub x 46 4=sub (dpS p) 4 4:=congrArg (fun x=>sub x 4 4) V;have a6:gd x 42=gd p 0:=congrArg (fun x=>gd x 0) V;show SOk (sub ([gd x 42,gd (bX (gd x 23) (sub x 31 2) (.b false)) 0,gd (bX (gd x 24) (sub x 31 2) (.b false)) 0,fg (gd x 25) (sub x 31 2) false]++(sub x 46 4 ++ [gd x 9,.i 0])) 0 9);rw[a2,O] at hO;rw[a1,O] at hF;rw[a6,a2,a1,a4,b1,O,h9];refine ajp s0 hO hF ha (fun y hy=>?_) hq;rw[show gd (sub r 0 2) 0=gd r 0 from rfl,show gd (sub r 0 2) 1=gd r 1 from rfl,<- Cv ha (a5 y hy)];obtain⟨j,hj,rfl⟩:=n9 hy;rw[<- aU hj];exact hm c2 j hj
@[irreducible] def aH(p:b8)(q:D)(r:b8):b8:=sub (mf (62) p [q] r).pay 0 10
theorem uS(p q r:b8)(h:(true)=true):GG (fun c l=>c=1/\l=sub l 0 10/\(LQ (gd p 8) (gd q 0) l)) (mf (62) p q r):=by
 unfold mf;refine ch (fun O=>gnd ?_ (cu ⟨rfl,aX _,?_⟩)) (fun O=>gnd ?_ (ch (fun V=>ch (fun c3=>cu ⟨rfl,aX _,?_⟩) (fun c3=>gjs (K:=ga _ _ _ _) (pS (?_)))) (fun V=>gjs (K:=ga _ _ _ _) (pS (?_)))))
 ·exact sb p [gd q 0] r
 ·exact agp rfl
 all_goals
  have U:au (sub p 0 9) [gd q 0] (sub r 0 2)≠1:=fun e=>by rw[e] at O;cases O
  obtain⟨J,Y,Z⟩:=vS U
  first
  | exact dB ((cQ _).2 J)
  | exact YF J rfl _
  | exact Nm p q r _ J Z (US Y) rfl rfl rfl rfl rfl
theorem KC{p:b8}{q:D}{r:b8}(h:(true)=true):LQ (gd p 8) q (aH p q r):=by unfold aH;exact (io (uS p [q] r h)).2
def zu:Ent:=(54,e3 (ag aK) ri (ag ay) fun p q r=>(⟨.tup [.agg d7,.c (.d si)],aH p (gd q 0) r⟩,true))
theorem Ju:aw f4 zu:=em fun p q r h=>alC rfl <| aq (N:=62) (ks:=qN) (ap (fC ⟨nV,fC ⟨iK,fC ⟨eY,fC ⟨mi,fC ⟨fP,fC ⟨kR,fC ⟨fB,fC ⟨uR,fC ⟨zp,fN⟩⟩⟩⟩⟩⟩⟩⟩⟩)) Tryz.func54 fun hw=>by rw[Jl];exact congrArg (fun x=>some (bo,x)) ((io (uS p [gd q 0] r h)).1.trans (by unfold aH;exact rfl))
@[irreducible] def thZ(p:b8)(q:D)(r:b8):b8:=sub (thI p q r) 0 10
theorem Zi(p:b8)(q:D)(r:b8):thZ p q r=sub (thI p q r) 0 10:=by unfold thZ;rfl
def jc:Ent:=(42,e3 (ag aK) ri (ag ay) fun p q r=>(⟨.tup [.agg d7,.c (.d si)],thZ p (gd q 0) r⟩,true))
theorem uQ:aw f4 jc:=by
 have h:jc=qZ:=by
  unfold jc qZ;simp only[Zi]
  all_goals rfl
 rw[h];exact IS
@[irreducible] def rdZ(p:b8)(n:D)(r:b8):b8:=sub (rdS p n r) 0 11
theorem XO(p:b8)(n:D)(r:b8):rdZ p n r=sub (rdS p n r) 0 11:=by unfold rdZ;rfl
def jf:Ent:=(38,e3 (ag aK) ri (ag ay) fun p q r=>(⟨.tup [.agg d7,.c (.d (.sl 108)),.c (.d si)],rdZ p (gd q 0) r⟩,true))
theorem uW:aw f4 jf:=by
 have h:jf=rt:=by
  unfold jf rt;simp only[XO]
  all_goals rfl
 rw[h];exact IL
@[irreducible] def bw(p:b8)(n y:D):b8:=sub (RQ p n y) 0 10
theorem SS(p:b8)(n y:D):bw p n y=sub (RQ p n y) 0 10:=by unfold bw;rfl
def gP:Ent:=(40,e3 (ag aK) ri rb fun p q r=>(⟨.tup [.agg d7,.c (.d si)],bw p (gd q 0) (gd r 0)⟩,true))
theorem qI:aw f4 gP:=by
 have h:gP=nt:=by
  unfold gP nt;simp only[SS]
  all_goals rfl
 rw[h];exact ED
@[irreducible] def prZ(p:b8)(n z u:D):b8:=sub (prS p n z u) 0 10
theorem Ye(p:b8)(n z u:D):prZ p n z u=sub (prS p n z u) 0 10:=by unfold prZ;rfl
def fZ:Ent:=(22,e4 (ag aK) ri (sd (.sl 41)) (sd (.sl 70)) fun p q r s=>(⟨.tup [.agg d7,.c (.d si)],prZ p (gd q 0) (gd r 0) (gd s 0)⟩,true))
theorem oZ:aw f4 fZ:=by
 have h:fZ=lm:=by
  unfold fZ lm;simp only[Ye]
  all_goals rfl
 rw[h];exact zK
@[irreducible] def eM(p:b8)(q:D)(r:b8):b8:=sub (TO p q r) 0 11
theorem TT(p:b8)(q:D)(r:b8):eM p q r=sub (TO p q r) 0 11:=by unfold eM;rfl
def gQ:Ent:=(10,e3 (ag aK) ri (ag ay) fun p q r=>(⟨.tup [.agg d7,.c (.d (.sl 108)),.c (.d si)],eM p (gd q 0) r⟩,true))
theorem pZ:aw f4 gQ:=by
 have h:gQ=np:=by
  unfold gQ np;simp only[TT]
  all_goals rfl
 rw[h];exact EM
theorem Va(p:b8)(q:D)(r:b8):(gd (TO p q r) 10).int=(gd (Tb p q r) 10).int/\((gd (Tb p q r) 10).int≠1->Lft p q (Tb p q r)/\SOk (sub (TO p q r) 0 9)/\(gd (TO p q r) 8=gd p 8\/gd (TO p q r) 8=q)):=by
 unfold Tb TO;cases hc:au (sub p 0 9) [q] (sub r 0 2) != 0 with
 | true =>
  rw[f8,f8];by_cases h1:au (sub p 0 9) [q] (sub r 0 2)=1
  ·rw[h1];exact⟨rfl,fun h=>absurd rfl h⟩
  ·have hw:=aiE h1;obtain⟨s,_⟩:=vS h1;have e1:((D.i (au (sub p 0 9) [q] (sub r 0 2))).int==1)=false:=v8.2 h1;refine⟨?_,fun _=>⟨hw _,?_⟩⟩
   ·unfold gt;rw[e1];rfl
   ·unfold cM;rw[show (au (sub p 0 9) [q] (sub r 0 2)==1)=false from e1];exact⟨gF s,.inl rfl⟩
 | false =>
 obtain⟨hsh,a3⟩:=KU hc;obtain⟨a4,c8,d2,c9,a0,c7,a5,c6⟩:=cD hsh;have a4:aR (gd p 4)=true:=a4;have b1:aR (.l (gd p 4).rows)=true:=a4;have a0:(ai (.l (gd p 6).rows)).Pairwise (· < ·):=Fe (z:=gd p 6) a0;have a5:aV (gd p 1)=true:=a5;have h1:au (sub p 0 9) [q] (sub r 0 2)≠1:=fun e=>by rw[e] at hc;cases hc
 obtain⟨s,hq,_⟩:=vS h1;rw[f5,f5];have hh:ax (gd p 1) (sub r 0 2)=ca (gd p 1) (sub r 0 2):=by unfold ax;rw[a5,a3,s8,s8]
 rw[hh];cases c1:ca (gd p 1) (sub r 0 2) with
 | false =>rw[w5,f8,f8];exact⟨rfl,fun _=>⟨iE s q _,gF s,.inl rfl⟩⟩
 | true =>
 rw[l8,f5,f5];cases hg:(gd (sub (bX (gd p 2) (sub r 0 2) (.b true)) 0 2) 1).bool with
 | false =>rw[w5,f8,f8];exact⟨rfl,fun _=>⟨iE s q _,gF s,.inl rfl⟩⟩
 | true =>
 rw[l8,f5,f5];have Z:=((bU _).1 a4).1;obtain⟨d1,_⟩:=qA (t:=gn p r) b1 (gn p r).rows.length (g8 _);obtain⟨w1,w2⟩:=oF (t:=gn p r) a0 (gn p r).rows.length (g8 _);obtain⟨U,s1,s2,s3,s4,s5⟩:=Vg (l:=.l (gd p 4).rows) (z:=gd p 4) (M:=jV r) (H:=mQ p) a0 (gd p 4).rows.length (g8 _);have c3:(ai (gn p r)).take (gn p r).rows.length=ai (gn p r):=z9 (by rw[bR];exact g8 _);rw[c3] at d1 w2;rw[C3] at s1 s5;have hT:∀m,m∈ai (gn p r)↔m∈U:=fun m=>by
  rw[s1,gn,Gq];refine exists_congr fun x=>and_congr_right fun J=>and_congr_left fun _=>?_
  have J:x∈(gd p 4).rows:=J;unfold rv;rw[lY,show (gd (sub r 0 2) 0)=gd r 0 from rfl,show (gd (sub r 0 2) 1)=gd r 1 from rfl,<- Cv a3 (Z x J)];show (jV r x&&(fV (gd p 5) (gd x 0).int==false))=true↔_;unfold mQ;cases jV r x <;> cases fV (gd p 5) (gd x 0).int <;> simp
 generalize hL:oP (.l (gd p 4).rows) (gn p r) (gn p r).rows.length=L at *;generalize hW:gr (.l (gd p 6).rows) (gn p r) (gn p r).rows.length=W at *;generalize jW (.l (gd p 4).rows) (.l (gd p 6).rows) (gd p 4) (jV r) (mQ p) (gd p 4).rows.length=s at *;obtain⟨l,w,a7⟩:=s;dsimp only at s1 s2 s3 s4 s5;have eT:ltI 0 ((nv (OJ p q r L W) (sub r 0 2) (.b true)).rows.length:Int)=a7:=by
  have c2:0<(nv (OJ p q r L W) (sub r 0 2) (.b true)).rows.length↔∃x∈(gd p 4).rows,(jV r x&&mQ p x)=true:=by
   rw[<- bR];constructor
   ·intro h;obtain⟨m,O⟩:=List.exists_mem_of_length_pos h;obtain⟨x,J,V,_⟩:=Gq.1 O;have J:x∈L.rows:=J;rw[d1] at J;have b6:x∈(gd p 4).rows:=(t8.1 J).1;refine⟨x,b6,?_⟩;have V:(cz [gd x 1,gd x 2] [gd r 0,gd r 1]&&(aA (aB (gd (dpS p) 5)) (gd x 0).int==true))=true:=V;rw[Sj,<- Cv a3 (Z x b6),show (gd (sub p 0 9) 5)=gd p 5 from rfl] at V;unfold mQ;simpa using V
   ·rintro⟨x,J,h⟩;rw[a9] at h;have V:x∈L.rows:=by rw[d1];refine t8.2 ⟨J,?_⟩;rw[m6,<- D6,u7,hT,s1];rintro⟨y,_,hy,e⟩;simp only[a9,m6] at hy;have Y:=h.2;unfold mQ at Y hy;rw[e,Y] at hy;exact absurd hy.2 (by simp)
    refine List.length_pos_of_mem ((Gq (p:=OJ p q r L W) (q:=sub r 0 2) (h:=true) (m:=(gd x 0).int)).2 ⟨x,V,?_,rfl⟩);show (cz [gd x 1,gd x 2] [gd r 0,gd r 1]&&(aA (aB (gd (dpS p) 5)) (gd x 0).int==true))=true;rw[Sj,<- Cv a3 (Z x J),show (gd (sub p 0 9) 5)=gd p 5 from rfl];have Y:=h.2;unfold mQ at Y;rw[h.1,Y];rfl
  rw[p7,s5,<- c2];unfold ltI;rw[f7];omega
 have hF:=QM s (a:=sub r 0 2) (wi:=.b true) hg fun _=>hh.trans c1
 have a6:∀r∈(gd p 4).rows,LOk (gd p 1) (gd p 6) (gd p 7) r:=s.lo;have b4:∀m∈U,(∃x∈(gd p 4).rows,(gd x 0).int=m)/\m ∉ ai (gd p 5):=fun m O=>by obtain⟨x,J,hb,e⟩:=(s1 m).1 O;refine⟨⟨x,J,e⟩,fun h5=>?_⟩;simp only[a9,m6] at hb;have Y:=hb.2;unfold mQ at Y;rw[e,gD.2 h5] at Y;cases Y
 have c4:∀x,x∈L.rows↔x∈(gd p 4).rows/\(gd x 0).int ∉ U:=fun x=>by rw[d1,t8,m6,<- D6,u7,hT];exact Iff.rfl
 have b3:∀W',(∀m,m∈ai W'↔m∈ai (gd p 6)\/m∈U)->∀x∈L.rows,LOk (gd p 1) W' (gd p 7) x:=fun W' a8 x J=>by obtain⟨x1,x2⟩:=(c4 x).1 J;exact⟨(a6 x x1).rg,fun O=>((a8 _).1 O).elim (a6 x x1).nw x2,(a6 x x1).ne⟩
 have b2:∀W',(∀m,m∈ai W'↔m∈ai (gd p 6)\/m∈U)->∀m∈ai W',m∈ai (gd p 6)\/((∃x∈(gd p 4).rows,(gd x 0).int=m)/\m ∉ ai (gd p 5)):=fun W' a8 m O=>((a8 m).1 O).imp id (b4 m)
 have c0:∀m,m∈ai W↔m∈ai (gd p 6)\/m∈U:=fun m=>by rw[w2,hT];exact Iff.rfl
 have b0:aR L=true:=by rw[<- hL];exact (qA (t:=gn p r) b1 (gn p r).rows.length (g8 _)).2
 have b5:KL p L:=fun h hh=>by
  rw[d1,H0];refine D7 fun x J=>?_
  cases c5:(gd x 0).int==h with
  | false=>rfl
  | true =>rw[p6.1 c5,s8,m6,<- D6,u7,hT];exact fun O=>(b4 h O).2 hh
 have eL:l.rows.map nrm=L.rows.map nrm:=by
  rw[s2,d1];show (List.map nrm (gd p 4).rows).filter _=List.map nrm ((gd p 4).rows.filter _);rw[F9]
  congr 1
  refine D7 fun x _=>?_
  show (!(U.contains (gd x 0).int)) = !(ai (gn p r)).contains (gd x 0).int
  congr 1
  rw[p7,u7,u7];exact (hT _).symm
 have a1:∀c,Lft p q (OJ p q r L W++c):=fun c=>aar s c hF (US hq) b0 (b3 W c0) b5 w1 (b2 W c0)
 have a2:SOk [gd p 0,.l (gd p 1).rows,gd (bX (gd p 2) (sub r 0 2) (.b true)) 0,.l (gd p 3).rows,l,gd (dpS p) 5,w,.l (gd p 7).rows,q]:=Tx s eL hF.1 hF.2 ((qH eL).trans b0) (b3 w s4) (fun _ hr O=>b5.has hr O) s3 (b2 w s4) (US hq);unfold ZY afG;rw[eT];cases a7 <;> exact⟨rfl,fun _=>⟨a1 _,a2,.inr rfl⟩⟩
abbrev QW:=find []
theorem SG:av f4 QW:=ap (fN)
abbrev QY:=[0,2,3,34]
def EV(N:Nat)(p:b8):Out:=
 nd (leI 0 33) (nd (leI 0 45) (bif ltI (gd p 1).int ((gd p 0).rows.length:Int) then nd (al (gd p 1).int (gd p 0).rows.length) (some (1,[.i 0,gd p 0,.i (w64 ((gd p 1).int+1)),.i (w64 ((w64 ((gd p 2).int*6364136223846793005))+1442695040888963407)),.i (Gl .and .i64 (w64 ((Gl .and .i64 (Gl .xor .i64 ((w64 ((w64 ((gd p 2).int*6364136223846793005))+1442695040888963407)).fdiv (2 ^ (min 33 64))) ((w64 ((w64 ((gd p 2).int*6364136223846793005))+1442695040888963407)).fdiv (2 ^ (min 45 64)))) 255)+(w64 (gd ((gd p 0).rows.getD (gd p 1).int.toNat []) 0).int))) 255)]))
 else some (1,[.i 0,gd p 0,gd p 1,.i (w64 ((w64 ((gd p 2).int*6364136223846793005))+1442695040888963407)),.i (Gl .and .i64 (Gl .xor .i64 ((w64 ((w64 ((gd p 2).int*6364136223846793005))+1442695040888963407)).fdiv (2 ^ (min 33 64))) ((w64 ((w64 ((gd p 2).int*6364136223846793005))+1442695040888963407)).fdiv (2 ^ (min 45 64)))) 255)])))
abbrev d8:List Ce:=[.d (.sl 5),.d si,.d si]
theorem UL(N:Nat)(p:b8):vh f4 QW N QY Tryz.f243 (.tup [.agg [.any],.agg d8,.c (.d si)]) [⟨.tup [.agg d8],p⟩]=some (bo,EV N p):=by kernel_rfl
@[irreducible] def aW(p:b8):b8:=sub (EV (0) p).pay 0 5
theorem GS(p:b8)(h:(be (gd p 0) (gd p 1))=true):GG (fun c l=>c=1/\l=sub l 0 5/\(be (gd l 1) (gd l 2)=true/\0<=(gd l 4).int/\(gd l 4).int<=255)) (EV (0) p):=by
 obtain⟨h1,O⟩:=NT.1 h;refine gnd rfl (gnd rfl (ch (fun J=>gnd ?_ (cu ⟨rfl,aX _,NT.2 ⟨?_,O⟩,akF _⟩)) (fun _=>cu ⟨rfl,aX _,h,akF _⟩)))
 ·have J:(gd p 1).int<((gd p 0).rows.length:Int):=j9 J;simp only[al,a9,f7];omega
 ·have J:(gd p 1).int<((gd p 0).rows.length:Int):=j9 J;show 0<=w64 ((gd p 1).int+1);rw[br (by omega) (by omega)];omega
theorem ZA{p:b8}(h:(be (gd p 0) (gd p 1))=true):be (gd (aW p) 1) (gd (aW p) 2)=true/\0<=(gd (aW p) 4).int/\(gd (aW p) 4).int<=255:=by unfold aW;exact (io (GS p h)).2
def RA:Ent:=(243,e1 (.tup [.agg d8]) fun p=>(⟨.tup [.agg [.any],.agg d8,.c (.d si)],aW p⟩,be (gd p 0) (gd p 1)))
theorem WJ:aw f4 RA:=ck fun p h=>gu (N:=0) (ks:=QY) (key:=bo) SG (cN Tryz.func243) Tryz.func243 fun hw J=>by rw[UL];exact congrArg (fun x=>some (bo,x)) ((io (GS p h)).1.trans (by unfold aW;exact rfl))
abbrev MZ:=find []
theorem WA:av f4 MZ:=ap (fN)
abbrev Lf:=[0,2,3,4,15]
def PV(N:Nat)(p:b8):b8->Out:=ajo f4 MZ N Lf Tryz.f134 (.tup [.agg [.any,.any,.any,.any,.d (.sl 5),.d si,.d si]]) [⟨sd (.sl 5),p⟩] 0
theorem acg(N:Nat)(p:b8)(y:b8):(PV N p) (sub y 0 4) =
 bif ltI (gd y 3).int ((gd y 0).rows.length:Int) then bif ltI (gd y 3).int 4000 then nd (al (gd y 3).int (gd y 0).rows.length) (nx [gd y 0,gd y 1,.i (Gl .and .i64 (w64 ((w64 ((w64 ((gd y 2).int*131))+(w64 (gd ((gd y 0).rows.getD (gd y 3).int.toNat []) 0).int)))+7)) 1073741823),.i (w64 ((gd y 3).int+1))])
 else ex 0 [gd y 0,gd y 1,gd y 2,gd y 3]
 else ex 0 [gd y 0,gd y 1,gd y 2,gd y 3]:=by kernel_rfl
def Rm(N:Nat)(p:b8)(J:Out):Out:=
 some (1,[gd J.pay 0,.i 0,gd J.pay 2])
def wH(N:Nat)(p:b8):Out:=
 (let J:=ba (PV N p) N [gd p 0,.i 0,.i (w64 (97097+((gd p 0).rows.length:Int))),.i 0]
  nd J.isSome (nd (J.code==2) (Rm N p J)))
theorem XE(N:Nat)(p:b8):afr f4 MZ N Lf Tryz.f134 (.tup [.agg [.any,.any,.any,.any,.d (.sl 5),.d si,.d si]]) [⟨sd (.sl 5),p⟩]=some (bo,wH N p):=by kernel_rfl
@[irreducible] def gM(p:D):b8:=sub (wH (4002) [p]).pay 0 3
theorem LF(p:b8)(h:(leI ((gd p 0).rows.length:Int) 1048576)=true):GG (fun c l=>c=1/\l=sub l 0 3/\(be (gd l 0) (gd l 1)=true)) (wH (4002) p):=by
 have Y:((gd p 0).rows.length:Int)<=1048576:=j9 h;refine git (K:=Rm 4002 p) (fun l=>gd l 0=gd p 0) (tO (I:=fun k s=>s=sub s 0 4/\gd s 0=gd p 0/\(gd s 3).int=(k:Int)) 4000 (fun k s hs=>?_) 4002 0 _ ⟨rfl,rfl,rfl⟩ (by omega) (by omega)) fun l V=>cu ⟨rfl,aX _,NT.2 ⟨F8 _,?_⟩⟩
 ·obtain⟨e,O,e3⟩:=hs;refine grd e (geq (acg _ _ s) (ch (fun U=>ch (fun J=>gnd ?_ (cu (.inl ⟨rfl,?_,aX _,O,?_⟩))) fun _=>cu (.inr ⟨by decide,rfl,O⟩)) fun _=>cu (.inr ⟨by decide,rfl,O⟩)))
  ·have U:(gd s 3).int<((gd s 0).rows.length:Int):=j9 U;simp only[al,a9,f7];omega
  ·have J:(gd s 3).int<4000:=j9 J;omega
  ·have J:(gd s 3).int<4000:=j9 J;show w64 ((gd s 3).int+1)=((k+1:Nat):Int);rw[br (by omega) (by omega)];omega
 ·show (gd l 0).rows.length<=1048576;rw[V];omega
theorem ack{p:D}(h:(leI (p.rows.length:Int) 1048576)=true):be (gd (gM p) 0) (gd (gM p) 1)=true:=by unfold gM;exact (io (LF [p] h)).2
theorem adU(N:Nat)(p:b8):wH N p=wH N [gd p 0]:=by kernel_rfl
def XB:Ent:=(134,e1 (sd (.sl 5)) fun p=>(⟨.tup [.agg [.any,.any,.any,.any,.d (.sl 5),.d si,.d si]],gM (gd p 0)⟩,leI ((gd p 0).rows.length:Int) 1048576))
theorem YD:aw f4 XB:=ck fun p h=>Xi (N:=4002) (ks:=Lf) (key:=bo) WA (cN Tryz.func134) Tryz.func134 fun hw=>by rw[XE];exact congrArg (fun x=>some (bo,x)) (((adU _ p).trans (io (LF [gd p 0] h)).1).trans (by unfold gM;exact rfl))
abbrev MP:=find [RA]
abbrev Ku:=[0,1,4,5,6,7,8,10,12]
def iv(p:b8):b8:=aW (sub (aW (sub (aW (sub p 0 3)) 1 3)) 1 3)
def pB(N:Nat)(p q:b8):Out:=
 bif leI (gd q 0).int 0 then some (1,[.i 0,gd p 0,gd p 1,gd p 2,.i 0])
 else bif leI (gd q 0).int 256 then nd (be (gd p 0) (gd p 1)) (nd ((gd q 0).int != 0) (some (1,[.i 0,gd (aW (sub p 0 3)) 1,gd (aW (sub p 0 3)) 2,gd (aW (sub p 0 3)) 3,.i ((gd (aW (sub p 0 3)) 4).int.tmod (gd q 0).int)])))
 else nd (be (gd p 0) (gd p 1)) (nd (be (gd (aW (sub p 0 3)) 1) (gd (aW (sub p 0 3)) 2)) (nd (be (gd (aW (sub (aW (sub p 0 3)) 1 3)) 1) (gd (aW (sub (aW (sub p 0 3)) 1 3)) 2)) (nd (be (gd (iv p) 1) (gd (iv p) 2)) (nd ((gd q 0).int != 0) (some (1,[.i 0,gd (aW (sub (iv p) 1 3)) 1,gd (aW (sub (iv p) 1 3)) 2,gd (aW (sub (iv p) 1 3)) 3,.i ((w64 ((w64 ((w64 ((w64 ((gd (aW (sub p 0 3)) 4).int*16777216))+(w64 ((gd (aW (sub (aW (sub p 0 3)) 1 3)) 4).int*65536))))+(w64 ((gd (iv p) 4).int*256))))+(gd (aW (sub (iv p) 1 3)) 4).int)).tmod (gd q 0).int)]))))))
theorem Sb(N:Nat)(p q:b8):vh f4 MP N Ku Tryz.f174 (.tup [.agg [.any],.agg d8,.c (.d si)]) [⟨.tup [.agg d8],p⟩,⟨ri,q⟩]=some (bo,pB N p q):=by kernel_rfl
@[irreducible] def aa(p:b8)(q:D):b8:=sub (pB (0) p [q]).pay 0 5
theorem BM(p q:b8)(h:(be (gd p 0) (gd p 1))=true):GG (fun c l=>c=1/\l=sub l 0 5/\(be (gd l 1) (gd l 2)=true/\0<=(gd l 4).int/\((gd l 4).int<(gd q 0).int\/(gd l 4).int=0))) (pB (0) p q):=by
 have U:∀X:b8,be (gd X 0) (gd X 1)=true->be (gd (aW X) 1) (gd (aW X) 2)=true/\0<=(gd (aW X) 4).int/\(gd (aW X) 4).int<=255:=fun X hX=>ZA hX
 obtain⟨Y,a2,a3⟩:=U (sub p 0 3) h;obtain⟨Z,b2,b3⟩:=U (sub (aW (sub p 0 3)) 1 3) Y;obtain⟨c1,c2,c3⟩:=U (sub (aW (sub (aW (sub p 0 3)) 1 3)) 1 3) Z;obtain⟨d1,d2,d3⟩:=U (sub (aW (sub (aW (sub (aW (sub p 0 3)) 1 3)) 1 3)) 1 3) c1;have O:leI (gd q 0).int 0=false->0<(gd q 0).int:=fun J=>by have:¬(gd q 0).int<=0:=J6 J;omega
 have V:leI (gd q 0).int 0=false->((gd q 0).int != 0)=true:=fun J=>by have:=O J;simp;omega
 refine ch (fun _=>cu ⟨rfl,aX _,h,F8 _,.inr rfl⟩) fun J=>ch (fun _=>gnd h (gnd (V J) (cu ⟨rfl,aX _,Y,?_⟩))) fun _=>?_
 ·have:=aaY a2 (O J);exact⟨this.1,.inl this.2⟩
 ·refine gnd h (gnd Y (gnd Z (gnd c1 (gnd (V J) (cu ⟨rfl,aX _,d1,?_⟩)))));have hx:0<=w64 ((w64 ((w64 ((w64 ((gd (aW (sub p 0 3)) 4).int*16777216))+(w64 ((gd (aW (sub (aW (sub p 0 3)) 1 3)) 4).int*65536))))+(w64 ((gd (aW (sub (aW (sub (aW (sub p 0 3)) 1 3)) 1 3)) 4).int*256))))+(gd (aW (sub (aW (sub (aW (sub (aW (sub p 0 3)) 1 3)) 1 3)) 1 3)) 4).int):=by generalize (gd (aW (sub (aW (sub (aW (sub (aW (sub p 0 3)) 1 3)) 1 3)) 1 3)) 4).int=w at *;generalize (gd (aW (sub (aW (sub (aW (sub p 0 3)) 1 3)) 1 3)) 4).int=z at *;generalize (gd (aW (sub (aW (sub p 0 3)) 1 3)) 4).int=y at *;generalize (gd (aW (sub p 0 3)) 4).int=x at *;rw[br (x:=x*16777216) (by omega) (by omega),br (x:=y*65536) (by omega) (by omega),br (x:=z*256) (by omega) (by omega),br (x:=x*16777216+y*65536) (by omega) (by omega),br (x:=x*16777216+y*65536+z*256) (by omega) (by omega),br (by omega) (by omega)];omega
  have:=aaY hx (O J);exact⟨this.1,.inl this.2⟩
theorem qh{p:b8}{q:D}(h:(be (gd p 0) (gd p 1))=true):be (gd (aa p q) 1) (gd (aa p q) 2)=true/\0<=(gd (aa p q) 4).int/\((gd (aa p q) 4).int<q.int\/(gd (aa p q) 4).int=0):=by unfold aa;exact (io (BM p [q] h)).2
theorem UU(N:Nat)(p q:b8):pB N p q=pB N p [gd q 0]:=by kernel_rfl
theorem gU{X:b8}{a:Nat}{q:D}(h:be (gd X a) (gd X (a+1))=true):be (gd (aa (sub X a 3) q) 1) (gd (aa (sub X a 3) q) 2)=true:=qh (p:=sub X a 3) h |>.1
theorem pa{x y z:D}{q:D}(h:be x y=true):be (gd (aa [x,y,z] q) 1) (gd (aa [x,y,z] q) 2)=true:=qh (p:= [x,y,z]) h |>.1
theorem DP{X:b8}{a:Nat}{q:D}(h:be (gd X a) (gd X (a+1))=true):0<=(gd (aa (sub X a 3) q) 4).int/\((gd (aa (sub X a 3) q) 4).int<q.int\/(gd (aa (sub X a 3) q) 4).int=0):=(qh (p:=sub X a 3) h).2
theorem adO{x y z:D}{q:D}(h:be x y=true):0<=(gd (aa [x,y,z] q) 4).int/\((gd (aa [x,y,z] q) 4).int<q.int\/(gd (aa [x,y,z] q) 4).int=0):=(qh (p:= [x,y,z]) h).2
def pN:Ent:=(174,e2 (.tup [.agg d8]) ri fun p q=>(⟨.tup [.agg [.any],.agg d8,.c (.d si)],aa p (gd q 0)⟩,be (gd p 0) (gd p 1)))
theorem oq:aw f4 pN:=bj fun p q h=>gu (N:=0) (ks:=Ku) (key:=bo) (ap (fC ⟨WJ,fN⟩)) (cN Tryz.func174) Tryz.func174 fun hw J=>by rw[Sb];exact congrArg (fun x=>some (bo,x)) (((UU _ p q).trans (io (BM p [gd q 0] h)).1).trans (by unfold aa;exact rfl))
abbrev Qu:=find [pN]
abbrev Ra:=[0,1,4]
def rH(N:Nat)(p q:b8):Out:=
 nd (be (gd p 0) (gd p 1)) (some (1,[.i 0,gd (aa (sub p 0 3) (gd q 0)) 1,gd (aa (sub p 0 3) (gd q 0)) 2,gd (aa (sub p 0 3) (gd q 0)) 3,.b ((gd (aa (sub p 0 3) (gd q 0)) 4).int==0)]))
theorem Vj(N:Nat)(p q:b8):vh f4 Qu N Ra Tryz.f172 (.tup [.agg [.any],.agg d8,.c (.d .bool)]) [⟨.tup [.agg d8],p⟩,⟨ri,q⟩]=some (bo,rH N p q):=by kernel_rfl
@[irreducible] def ae(p:b8)(q:D):b8:=sub (rH (0) p [q]).pay 0 5
theorem Ij(p q:b8)(h:(be (gd p 0) (gd p 1))=true):GG (fun c l=>c=1/\l=sub l 0 5/\(be (gd l 1) (gd l 2)=true)) (rH (0) p q):=by have J:=gU (X:=p) (a:=0) (q:=gd q 0) h;refine gnd h (cu ⟨rfl,aX _,J⟩)
theorem Ki{p:b8}{q:D}(h:(be (gd p 0) (gd p 1))=true):be (gd (ae p q) 1) (gd (ae p q) 2)=true:=by unfold ae;exact (io (Ij p [q] h)).2
theorem ZH(N:Nat)(p q:b8):rH N p q=rH N p [gd q 0]:=by kernel_rfl
theorem kf{X:b8}{a:Nat}{q:D}(h:be (gd X a) (gd X (a+1))=true):be (gd (ae (sub X a 3) q) 1) (gd (ae (sub X a 3) q) 2)=true:=Ki (p:=sub X a 3) h
theorem sj{x y z:D}{q:D}(h:be x y=true):be (gd (ae [x,y,z] q) 1) (gd (ae [x,y,z] q) 2)=true:=Ki (p:= [x,y,z]) h
def ye:Ent:=(172,e2 (.tup [.agg d8]) ri fun p q=>(⟨.tup [.agg [.any],.agg d8,.c (.d .bool)],ae p (gd q 0)⟩,be (gd p 0) (gd p 1)))
theorem vP:aw f4 ye:=bj fun p q h=>gu (N:=0) (ks:=Ra) (key:=bo) (ap (fC ⟨oq,fN⟩)) (cN Tryz.func172) Tryz.func172 fun hw J=>by rw[Vj];exact congrArg (fun x=>some (bo,x)) (((ZH _ p q).trans (io (Ij p [gd q 0] h)).1).trans (by unfold ae;exact rfl))
def CR(N:Nat)(p q:b8):Out:=
 nd (be (gd p 0) (gd p 1)) (nd (al (gd (aa (sub p 0 3) (.i ((gd q 0).rows.length:Int))) 4).int (gd q 0).rows.length) (some (1,[.i 0,gd (aa (sub p 0 3) (.i ((gd q 0).rows.length:Int))) 1,gd (aa (sub p 0 3) (.i ((gd q 0).rows.length:Int))) 2,gd (aa (sub p 0 3) (.i ((gd q 0).rows.length:Int))) 3,gd ((gd q 0).rows.getD (gd (aa (sub p 0 3) (.i ((gd q 0).rows.length:Int))) 4).int.toNat []) 0])))
@[irreducible] def gz(p:b8)(q:D):b8:=sub (CR (0) p [q]).pay 0 5
theorem Oj(p q:b8)(h:(be (gd p 0) (gd p 1)&&aeW (gd q 0))=true):GG (fun c l=>c=1/\l=sub l 0 5/\(be (gd l 1) (gd l 2)=true)) (CR (0) p q):=by rw[a9] at h;have J:=gU (X:=p) (a:=0) (q:=.i ((gd q 0).rows.length:Int)) h.1;have O:=DP (X:=p) (a:=0) (q:=.i ((gd q 0).rows.length:Int)) h.1;refine gnd h.1 (gnd ?_ (cu ⟨rfl,aX _,J⟩));have U:0<((gd q 0).rows.length:Int):=j9 h.2;have V:_<((gd q 0).rows.length:Int)\/_:=O.2;simp only[al,a9,f7];omega
theorem zq{p:b8}{q:D}(h:(be (gd p 0) (gd p 1)&&aeW q)=true):be (gd (gz p q) 1) (gd (gz p q) 2)=true:=by unfold gz;exact (io (Oj p [q] h)).2
theorem Lo{X:b8}{a:Nat}{q:D}(h:be (gd X a) (gd X (a+1))=true)(J:aeW q=true):be (gd (gz (sub X a 3) q) 1) (gd (gz (sub X a 3) q) 2)=true:=zq (p:=sub X a 3) (yU h J)
theorem FD{x y z:D}{q:D}(h:be x y=true)(J:aeW q=true):be (gd (gz [x,y,z] q) 1) (gd (gz [x,y,z] q) 2)=true:=zq (p:= [x,y,z]) (yU h J)
abbrev xN:=find [pN]
abbrev wX:=[0,2,3]
def fE(p:b8):b8:=aa (sub (aa (sub p 0 3) (.i 40)) 1 3) (.i 6)
def kU(N:Nat)(p:b8):Out:=
 nd (be (gd p 0) (gd p 1)) (nd (be (gd (aa (sub p 0 3) (.i 40)) 1) (gd (aa (sub p 0 3) (.i 40)) 2)) (some (1,[.i 0,gd (fE p) 1,gd (fE p) 2,gd (fE p) 3,gd (aa (sub p 0 3) (.i 40)) 4,.i (w64 ((w64 ((gd (aa (sub p 0 3) (.i 40)) 4).int+1))+(gd (fE p) 4).int))])))
theorem Gm(N:Nat)(p:b8):vh f4 xN N wX Tryz.f227 (.tup [.agg [.any],.agg d8,.agg [.d si,.d si]]) [⟨.tup [.agg d8],p⟩]=some (bo,kU N p):=by kernel_rfl
@[irreducible] def af(p:b8):b8:=sub (kU (0) p).pay 0 6
theorem rL(p:b8)(h:(be (gd p 0) (gd p 1))=true):GG (fun c l=>c=1/\l=sub l 0 6/\(be (gd l 1) (gd l 2)=true)) (kU (0) p):=by
 unfold kU;refine gnd ?_ (gnd ?_ (cu ⟨rfl,aX _,?_⟩))
 all_goals try replace J:=(j9 J:_<_)
 all_goals first
  | (simp (maxDischargeDepth:=30) only [gU,pa,kf,sj,Lo,FD,di,Um,aL,aJ,Nat.reduceAdd,v6,fE,h];done)
  | (simp only[aL,aJ,bp,i5,D3,F0,aE,fE];omega)
  | omega
  | exact JQ (by omega)
  | skip
theorem uY{p:b8}(h:(be (gd p 0) (gd p 1))=true):be (gd (af p) 1) (gd (af p) 2)=true:=by unfold af;exact (io (rL p h)).2
theorem Wl{X:b8}{a:Nat}(h:be (gd X a) (gd X (a+1))=true):be (gd (af (sub X a 3)) 1) (gd (af (sub X a 3)) 2)=true:=uY (p:=sub X a 3) h
theorem Rv{x y z:D}(h:be x y=true):be (gd (af [x,y,z]) 1) (gd (af [x,y,z]) 2)=true:=uY (p:= [x,y,z]) h
def pc:Ent:=(227,e1 (.tup [.agg d8]) fun p=>(⟨.tup [.agg [.any],.agg d8,.agg [.d si,.d si]],af p⟩,be (gd p 0) (gd p 1)))
theorem rZ:aw f4 pc:=ck fun p h=>gu (N:=0) (ks:=wX) (key:=bo) (ap (fC ⟨oq,fN⟩)) (cN Tryz.func227) Tryz.func227 fun hw J=>by rw[Gm];exact congrArg (fun x=>some (bo,x)) ((io (rL p h)).1.trans (by unfold af;exact rfl))
abbrev lR:=find [pN,ye]
abbrev lD:=[0,2,3,4,5,6,13,21]
def ql(N:Nat)(p:b8):b8->Out:=SO f4 lR N lD Tryz.f171 (.tup [.agg [.any],.agg d8,.c (.d (.sl 70))]) [⟨.tup [.agg d8],p⟩] 0
def bT(U O J:D):b8:=aa (sub (aa [U,O,J] (.i 4)) 1 3) (.i 99)
def cw(U O J:D):b8:=aa (sub (ae (sub (bT U O J) 1 3) (.i 5)) 1 3) (.i 8)
theorem Eu(N:Nat)(p:b8)(y:b8):(ql N p) (sub y 0 8) =
 nd (be (gd y 5) (gd y 6)) (bif ltI (gd y 4).int (gd (aa [gd y 5,gd y 6,gd y 7] (.i 4)) 4).int then nd (be (gd (aa [gd y 5,gd y 6,gd y 7] (.i 4)) 1) (gd (aa [gd y 5,gd y 6,gd y 7] (.i 4)) 2)) (nd (be (gd (bT (gd y 5) (gd y 6) (gd y 7)) 1) (gd (bT (gd y 5) (gd y 6) (gd y 7)) 2)) (bif (gd (ae (sub (bT (gd y 5) (gd y 6) (gd y 7)) 1 3) (.i 5)) 4).bool then nd (bq ((gd y 2).rows ++ [[gd y 3,.i (-1)]])&&true) (nd (be (gd (ae (sub (bT (gd y 5) (gd y 6) (gd y 7)) 1 3) (.i 5)) 1) (gd (ae (sub (bT (gd y 5) (gd y 6) (gd y 7)) 1 3) (.i 5)) 2)) (nx [gd y 0,gd y 1,.l ((gd y 2).rows ++ [[gd y 3,.i (-1)]]),.i (w64 ((w64 ((gd y 3).int+1))+(gd (cw (gd y 5) (gd y 6) (gd y 7)) 4).int)),.i (w64 ((gd y 4).int+1)),gd (cw (gd y 5) (gd y 6) (gd y 7)) 1,gd (cw (gd y 5) (gd y 6) (gd y 7)) 2,gd (cw (gd y 5) (gd y 6) (gd y 7)) 3]))
 else nd (bq ((gd y 2).rows ++ [[gd y 3,gd (bT (gd y 5) (gd y 6) (gd y 7)) 4]])&&true) (nd (be (gd (ae (sub (bT (gd y 5) (gd y 6) (gd y 7)) 1 3) (.i 5)) 1) (gd (ae (sub (bT (gd y 5) (gd y 6) (gd y 7)) 1 3) (.i 5)) 2)) (nx [gd y 0,gd y 1,.l ((gd y 2).rows ++ [[gd y 3,gd (bT (gd y 5) (gd y 6) (gd y 7)) 4]]),.i (w64 ((w64 ((gd y 3).int+1))+(gd (cw (gd y 5) (gd y 6) (gd y 7)) 4).int)),.i (w64 ((gd y 4).int+1)),gd (cw (gd y 5) (gd y 6) (gd y 7)) 1,gd (cw (gd y 5) (gd y 6) (gd y 7)) 2,gd (cw (gd y 5) (gd y 6) (gd y 7)) 3]))))
 else ex 0 [gd y 0,gd y 1,gd y 2,gd y 3,gd y 4,gd (aa [gd y 5,gd y 6,gd y 7] (.i 4)) 1,gd (aa [gd y 5,gd y 6,gd y 7] (.i 4)) 2,gd (aa [gd y 5,gd y 6,gd y 7] (.i 4)) 3]):=by kernel_rfl
def qc(N:Nat)(p:b8)(J:Out):Out:=
 some (1,[.i 0,gd J.pay 5,gd J.pay 6,gd J.pay 7,gd J.pay 2])
def iF(N:Nat)(p:b8):Out:=
 nd (be (gd p 0) (gd p 1)) ((let J:=ba (ql N p) N [.i 0,.l [],.l [],gd (aa (sub p 0 3) (.i 20)) 4,.i 0,gd (aa (sub p 0 3) (.i 20)) 1,gd (aa (sub p 0 3) (.i 20)) 2,gd (aa (sub p 0 3) (.i 20)) 3]
  nd J.isSome (nd (J.code==2) (qc N p J))))
theorem Ae(N:Nat)(p:b8):vh f4 lR N lD Tryz.f171 (.tup [.agg [.any],.agg d8,.c (.d (.sl 70))]) [⟨.tup [.agg d8],p⟩]=some (bo,iF N p):=by kernel_rfl
@[irreducible] def an(p:b8):b8:=sub (iF (6) p).pay 0 5
theorem pe(p:b8)(h:(be (gd p 0) (gd p 1))=true):GG (fun c l=>c=1/\l=sub l 0 5/\(be (gd l 1) (gd l 2)=true/\(gd l 4).rows.length<=200)) (iF (6) p):=by
 unfold iF;refine gnd h (git (K:=qc 6 p) (c:=2) (fun l=>be (gd l 5) (gd l 6)=true/\(gd l 2).rows.length<=4) ?_ ?_)
 ·refine tO (I:=fun k s=>s=sub s 0 8/\be (gd s 5) (gd s 6)=true/\(gd s 4).int=(k:Int)/\(gd s 2).rows.length<=k/\k<=4) 4 (fun k s hs=>?_) 6 0 _ ⟨aX _,by simp (maxDischargeDepth:=30) only [gU,aL,aJ,Nat.reduceAdd,h],rfl,g8 _,y5 _⟩ (by decide) (y5 _);obtain⟨e,U,hi,Y,hk⟩:=hs;have hw:w64 ((gd s 4).int+1)=((k+1:Nat):Int):=by rw[br (by omega) (by omega)];omega
  have Z:(gd (aa [gd s 5,gd s 6,gd s 7] (.i 4)) 4).int<4:=by have:=(adO (z:=gd s 7) (q:=.i 4) U).2;rw[aE] at this;omega
  refine grd e (geq (Eu _ _ s) (gnd ?_ (ch (fun J=>gnd ?_ (gnd ?_ (ch (fun V=>gnd ?_ (gnd ?_ (cu (.inl ⟨rfl,?_,aX _,?_,hw,?_,?_⟩)))) (fun V=>gnd ?_ (gnd ?_ (cu (.inl ⟨rfl,?_,aX _,?_,hw,?_,?_⟩))))))) (fun J=>cu (.inr ⟨by decide,rfl,?_,?_⟩)))))
  all_goals try replace J:=(j9 J:_<_)
  all_goals first
   | (simp (maxDischargeDepth:=30) only [gU,pa,kf,sj,Lo,FD,di,Um,aL,aJ,Nat.reduceAdd,v6,bT,cw,U];done)
   | (simp only[aL,aJ,bp,i5,D3,F0,aE,bT,cw];omega)
   | omega
   | exact JQ (by omega)
   | exact rfl
   | skip
 ·intro l O;refine cu ⟨rfl,aX _,O.1,?_⟩;have:=O.2;show (gd l 2).rows.length<=200;omega
theorem Cz{p:b8}(h:(be (gd p 0) (gd p 1))=true):be (gd (an p) 1) (gd (an p) 2)=true/\(gd (an p) 4).rows.length<=200:=by unfold an;exact (io (pe p h)).2
def rJ:Ent:=(171,e1 (.tup [.agg d8]) fun p=>(⟨.tup [.agg [.any],.agg d8,.c (.d (.sl 70))],an p⟩,be (gd p 0) (gd p 1)))
theorem AO:aw f4 rJ:=ck fun p h=>gu (N:=6) (ks:=lD) (key:=bo) (ap (fC ⟨oq,fC ⟨vP,fN⟩⟩)) (cN Tryz.func171) Tryz.func171 fun hw J=>by rw[Ae];exact congrArg (fun x=>some (bo,x)) ((io (pe p h)).1.trans (by unfold an;exact rfl))
abbrev nm:=find [ye,gq,pc]
abbrev nq:=[0,1,2,4,6,7,8,14,34,45]
def sz(N:Nat)(p q r:b8):b8->Out:=SO f4 nm N nq Tryz.f170 (.tup [.agg [.any],.agg d8,.c (.own (0,0) true 41)]) [⟨.tup [.agg d8],p⟩,⟨ag aK,q⟩,⟨ri,r⟩] 0
theorem Ff(N:Nat)(p q r:b8)(y:b8):(sz N p q r) (sub y 0 27) =
 bif ltI (gd y 14).int ((gd y 22).rows.length:Int) then nd (al (gd y 14).int (gd y 22).rows.length) (bif (gd ((gd y 22).rows.getD (gd y 14).int.toNat []) 0).int==(gd y 10).int then bif ltI ((gd y 13).rows.length:Int) 5 then nd (be (gd y 15) (gd y 16)) (bif !(gd (ae [gd y 15,gd y 16,gd y 17] (.i 4)) 4).bool then nd (al (gd y 14).int (gd y 22).rows.length) (nd (bq ((gd y 13).rows ++ [[(gd ((gd y 22).rows.getD (gd y 14).int.toNat []) 1),(gd ((gd y 22).rows.getD (gd y 14).int.toNat []) 2)]])&&true) (nx [gd y 0,gd y 1,gd y 2,gd y 3,gd y 4,gd y 5,gd y 6,gd y 7,gd y 8,gd y 9,gd y 10,gd y 11,gd y 12,.l ((gd y 13).rows ++ [[(gd ((gd y 22).rows.getD (gd y 14).int.toNat []) 1),(gd ((gd y 22).rows.getD (gd y 14).int.toNat []) 2)]]),.i (w64 ((gd y 14).int+1)),gd (ae [gd y 15,gd y 16,gd y 17] (.i 4)) 1,gd (ae [gd y 15,gd y 16,gd y 17] (.i 4)) 2,gd (ae [gd y 15,gd y 16,gd y 17] (.i 4)) 3,gd y 18,gd y 19,gd y 20,gd y 21,gd y 22,gd y 23,gd y 24,gd y 25,gd y 26]))
 else nx [gd y 0,gd y 1,gd y 2,gd y 3,gd y 4,gd y 5,gd y 6,gd y 7,gd y 8,gd y 9,gd y 10,gd y 11,gd y 12,gd y 13,.i (w64 ((gd y 14).int+1)),gd (ae [gd y 15,gd y 16,gd y 17] (.i 4)) 1,gd (ae [gd y 15,gd y 16,gd y 17] (.i 4)) 2,gd (ae [gd y 15,gd y 16,gd y 17] (.i 4)) 3,gd y 18,gd y 19,gd y 20,gd y 21,gd y 22,gd y 23,gd y 24,gd y 25,gd y 26])
 else nx [gd y 0,gd y 1,gd y 2,gd y 3,gd y 4,gd y 5,gd y 6,gd y 7,gd y 8,gd y 9,gd y 10,gd y 11,gd y 12,gd y 13,.i (w64 ((gd y 14).int+1)),gd y 15,gd y 16,gd y 17,gd y 18,gd y 19,gd y 20,gd y 21,gd y 22,gd y 23,gd y 24,gd y 25,gd y 26]
 else nx [gd y 0,gd y 1,gd y 2,gd y 3,gd y 4,gd y 5,gd y 6,gd y 7,gd y 8,gd y 9,gd y 10,gd y 11,gd y 12,gd y 13,.i (w64 ((gd y 14).int+1)),gd y 15,gd y 16,gd y 17,gd y 18,gd y 19,gd y 20,gd y 21,gd y 22,gd y 23,gd y 24,gd y 25,gd y 26])
 else ex 0 [gd y 0,gd y 1,gd y 2,gd y 3,gd y 4,gd y 5,gd y 6,gd y 7,gd y 8,gd y 9,gd y 10,gd y 11,gd y 12,gd y 13,gd y 14,gd y 15,gd y 16,gd y 17,gd y 18,gd y 19,gd y 20,gd y 21,gd y 22,gd y 23,gd y 24,gd y 25,gd y 26]:=by kernel_rfl
def cJ(J:Out):b8:=af (sub (ae (sub J.pay 15 3) (.i 12)) 1 3)
def sr(N:Nat)(p q r:b8)(J:Out):Out:=
 nd (be (gd J.pay 15) (gd J.pay 16)) (bif (gd (ae (sub J.pay 15 3) (.i 12)) 4).bool then nd (be (gd (ae (sub J.pay 15 3) (.i 12)) 1) (gd (ae (sub J.pay 15 3) (.i 12)) 2)) (nd (bq ((gd J.pay 13).rows ++ [sub (cJ J) 4 2])&&true) (some (1,[.i 0,gd (cJ J) 1,gd (cJ J) 2,gd (cJ J) 3,.l ((gd J.pay 13).rows ++ [sub (cJ J) 4 2])])))
  else some (1,[.i 0,gd (ae (sub J.pay 15 3) (.i 12)) 1,gd (ae (sub J.pay 15 3) (.i 12)) 2,gd (ae (sub J.pay 15 3) (.i 12)) 3,gd J.pay 13]))
def gT(N:Nat)(p q r:b8):Out:=
 (let J:=ba (sz N p q r) N [.i 0,gd q 0,gd q 1,gd q 2,gd q 3,gd q 4,gd q 5,gd q 6,gd q 7,gd q 8,gd r 0,.i 0,.l [],.l [],.i 0,gd p 0,gd p 1,gd p 2,gd q 0,gd q 1,gd q 2,gd q 3,gd q 4,gd q 5,gd q 6,gd q 7,gd q 8]
  nd J.isSome (nd (J.code==2) (sr N p q r J)))
theorem Dk(N:Nat)(p q r:b8):vh f4 nm N nq Tryz.f170 (.tup [.agg [.any],.agg d8,.c (.own (0,0) true 41)]) [⟨.tup [.agg d8],p⟩,⟨ag aK,q⟩,⟨ri,r⟩]=some (bo,gT N p q r):=by kernel_rfl
@[irreducible] def ah(p:b8)(q:b8)(r:D):b8:=sub (gT ((gd q 4).rows.length+1) p q [r]).pay 0 5
theorem qg(p q r:b8)(h:(be (gd p 0) (gd p 1)&&leI ((gd q 4).rows.length:Int) 1000000)=true):GG (fun c l=>c=1/\l=sub l 0 5/\(be (gd l 1) (gd l 2)=true/\(gd l 4).rows.length<=200)) (gT ((gd q 4).rows.length+1) p q r):=by
 rw[a9] at h;obtain⟨h,Z⟩:=h;have Z:((gd q 4).rows.length:Int)<=1000000:=j9 Z;refine git (K:=sr ((gd q 4).rows.length+1) p q r) (fun l=>be (gd l 15) (gd l 16)=true/\(gd l 13).rows.length<=5) (tO (I:=fun k s=>s=sub s 0 27/\be (gd s 15) (gd s 16)=true/\(gd s 14).int=(k:Int)/\(gd s 13).rows.length<=5/\gd s 22=gd q 4/\k<=(gd q 4).rows.length) (gd q 4).rows.length (fun k s hs=>?_) ((gd q 4).rows.length+1) 0 _ ⟨aX _,h,rfl,y5 _,rfl,y5 _⟩ (by omega) (y5 _)) fun l hl=>?_
 ·obtain⟨e,Y,hi,hr,O,hk⟩:=hs;have hw:w64 ((gd s 14).int+1)=((k+1:Nat):Int):=by rw[br (by omega) (by omega)];omega
  have hin:(gd s 14).int<((gd s 22).rows.length:Int)->al (gd s 14).int (gd s 22).rows.length=true:=fun U=>by rw[hi];exact bP (by omega)
  have hn:(gd s 14).int<((gd s 22).rows.length:Int)->k<(gd q 4).rows.length:=fun U=>by rw[O] at U;omega
  refine grd e (geq (Ff _ _ _ _ s) (ch (fun J=>gnd ?_ (ch (fun c2=>ch (fun V=>gnd ?_ (ch (fun c4=>gnd ?_ (gnd ?_ (cu (.inl ⟨rfl,hn (j9 J),aX _,?_,hw,?_,O,hn (j9 J)⟩)))) (fun c4=>cu (.inl ⟨rfl,hn (j9 J),aX _,?_,hw,?_,O,hn (j9 J)⟩)))) (fun V=>cu (.inl ⟨rfl,hn (j9 J),aX _,?_,hw,?_,O,hn (j9 J)⟩))) (fun c2=>cu (.inl ⟨rfl,hn (j9 J),aX _,?_,hw,?_,O,hn (j9 J)⟩)))) (fun J=>cu (.inr ⟨by decide,rfl,?_,?_⟩))))
  all_goals try replace V:=(j9 V:_<_)
  all_goals try replace J:=(j9 J:_<_)
  all_goals first
   | (simp (maxDischargeDepth:=30) only [gU,pa,kf,sj,Lo,FD,di,Um,aL,aJ,Nat.reduceAdd,v6,cJ,Y];done)
   | (simp only[aL,aJ,bp,i5,D3,F0,aE,cJ];omega)
   | omega
   | exact JQ (by omega)
   | exact hin J
   | exact rfl
   | skip
 ·obtain⟨Y,hr⟩:=hl;refine gnd ?_ (ch (fun J=>gnd ?_ (gnd ?_ (cu ⟨rfl,aX _,?_,?_⟩))) (fun J=>cu ⟨rfl,aX _,?_,?_⟩))
  all_goals try simp only[Out.pay,w3,cJ]
  all_goals try replace J:=(j9 J:_<_)
  all_goals first
   | (simp (maxDischargeDepth:=30) only [gU,pa,kf,sj,Wl,Rv,di,Um,aL,aJ,Nat.reduceAdd,v6,cJ,Y];done)
   | (simp only[aL,aJ,bp,i5,D3,F0,aE,cJ];omega)
   | omega
   | exact JQ (by omega)
   | skip
theorem Gr{p:b8}{q:b8}{r:D}(h:(be (gd p 0) (gd p 1)&&leI ((gd q 4).rows.length:Int) 1000000)=true):be (gd (ah p q r) 1) (gd (ah p q r) 2)=true/\(gd (ah p q r) 4).rows.length<=200:=by unfold ah;exact (io (qg p q [r] h)).2
theorem FF(N:Nat)(p q r:b8):gT N p q r=gT N p q [gd r 0]:=by kernel_rfl
def uJ:Ent:=(170,e3 (.tup [.agg d8]) (ag aK) ri fun p q r=>(⟨.tup [.agg [.any],.agg d8,.c (.own (0,0) true 41)],ah p q (gd r 0)⟩,be (gd p 0) (gd p 1)&&leI ((gd q 4).rows.length:Int) 1000000))
theorem CZ:aw f4 uJ:=em fun p q r h=>gu (N:=(gd q 4).rows.length+1) (ks:=nq) (key:=bo) (ap (fC ⟨vP,fC ⟨fP,fC ⟨rZ,fN⟩⟩⟩)) (cN Tryz.func170) Tryz.func170 fun hw J=>by rw[Dk];exact congrArg (fun x=>some (bo,x)) (((FF _ p q r).trans (io (qg p q [gd r 0] h)).1).trans (by unfold ah;exact rfl))
abbrev Ry:=find []
theorem RF:av f4 Ry:=ap (fN)
abbrev Qr:=[0,1,4,5,12]
def sF(N:Nat)(p q:b8):Out:=
 nd (20 != 0) (bif ltI (gd q 0).int (w64 (2+(w64 (((gd p 0).rows.length:Int).tdiv 20)))) then some (1,[gd q 0])
 else oi (w64 (2+(w64 (((gd p 0).rows.length:Int).tdiv 20)))))
theorem Wm(N:Nat)(p q:b8):aZ f4 Ry N Qr Tryz.f135 ri [⟨sd (.sl 5),p⟩,⟨ri,q⟩]=some (bo,sF N p q):=by kernel_rfl
@[irreducible] def fA(p:D)(q:D):b8:=sub (sF (0) [p] [q]).pay 0 1
theorem Ip(p q:b8)(h:(leI ((gd p 0).rows.length:Int) 1048576&&(leI 0 (gd q 0).int&&leI (gd q 0).int 100))=true):GG (fun c l=>c=1/\l=sub l 0 1/\(0<=(gd l 0).int/\(gd l 0).int<=100)) (sF (0) p q):=by
 simp only[a9] at h;obtain⟨h,J,O⟩:=h;have h:((gd p 0).rows.length:Int)<=1048576:=j9 h;have J:0<=(gd q 0).int:=j9 J;have O:(gd q 0).int<=100:=j9 O;have e:w64 (2+(w64 (((gd p 0).rows.length:Int).tdiv 20)))=2+((gd p 0).rows.length:Int) / 20:=by rw[Int.tdiv_eq_ediv_of_nonneg (by omega),br (x:=((gd p 0).rows.length:Int) / 20) (by omega) (by omega),br (by omega) (by omega)]
 refine gnd ?_ (ch (fun U=>cu ⟨rfl,aX _,?_,?_⟩) (fun U=>cu ⟨rfl,aX _,?_,?_⟩))
 all_goals try rfl
 ·exact J
 ·exact O
 ·show 0<=w64 (2+(w64 (((gd p 0).rows.length:Int).tdiv 20)));rw[e];omega
 ·have U:¬(gd q 0).int<w64 (2+(w64 (((gd p 0).rows.length:Int).tdiv 20))):=J6 U;show w64 (2+(w64 (((gd p 0).rows.length:Int).tdiv 20)))<=100;omega
theorem Zk{p:D}{q:D}(h:(leI (p.rows.length:Int) 1048576&&(leI 0 q.int&&leI q.int 100))=true):0<=(gd (fA p q) 0).int/\(gd (fA p q) 0).int<=100:=by unfold fA;exact (io (Ip [p] [q] h)).2
theorem Zj(N:Nat)(p q:b8):sF N p q=sF N [gd p 0] [gd q 0]:=by kernel_rfl
def PZ:Ent:=(135,e2 (sd (.sl 5)) ri fun p q=>(⟨ri,[gd (fA (gd p 0) (gd q 0)) 0]⟩,leI ((gd p 0).rows.length:Int) 1048576&&(leI 0 (gd q 0).int&&leI (gd q 0).int 100)))
theorem VM:aw f4 PZ:=bj fun p q h=>aq (N:=0) (ks:=Qr) RF Tryz.func135 fun hw=>by rw[Wm];exact congrArg (fun x=>some (bo,x)) (((Zj _ p q).trans (io (Ip [gd p 0] [gd q 0] h)).1).trans (by unfold fA;exact congrArg (fun z=>some (1,z)) (anD _)))
def aeU(P:Program)(call:FuncId->List T->Option (T × Bool))(N:Nat)(ks:List Nat)(fin:St->Option b8)(fn:Func)(id:Nat)(d:Dom):b8->Out:=
 match fn.body with
 | some c=>match nH id c with
  | some b=>ut P call N ks fin b d
  | none=>fun _=>none
 | none=>fun _=>none
theorem YO(a:R):gO true a=a:=by
 cases a with
 | none=>rfl
 | some x=>rfl
theorem sa(b c:Bool)(a:R):gO b (gO c a)=gO (b&&c) a:=by
 cases a with
 | none=>rfl
 | some x=>cases b <;> cases c <;> rfl
section
variable (P:Program) (call:FuncId->List T->Option (T × Bool)) (N:Nat) (ks:List Nat) (fin:St->Option b8)
def acl(ops:Array Oper):List Oper->St->(St->Option (Bool × St))->Option (Bool × St)
 | [],σ,k=>k σ
 | o::rest,σ,k=>match KR ops σ o with
  | .yes=>match Gz P call σ o with
   | some (σ',ok)=>match acl ops rest σ' k with
    | some (b,τ)=>some (ok&&b,τ)
    | none=>none
   | none=>none
  | .no=>acl ops rest (σ.put o.dst .none_) k
  | _=>none
theorem SU{ops:Array Oper}{U:St->Option (Bool × St)}{k V:St->R}(hk:∀(σ:St) (b:Bool) (J:St),U σ=some (b,J)->k σ=gO b (V J)):∀(l:List Oper) (σ:St) {b:Bool} {J:St},acl P call ops l σ U=some (b,J)->ve P call ops l σ k=gO b (V J)
 | [],σ,b,J,h=>hk σ b J h
 | o::rest,σ,b,J,h=>by
  unfold acl at h;unfold ve YV qF;cases hw:KR ops σ o with
  | yes =>
   rw[hw] at h;dsimp only at h ⊢;unfold GU;cases Y:Gz P call σ o with
   | none=>rw[Y] at h;cases h
   | some x =>
    rw[Y] at h;dsimp only at h ⊢;cases O:acl P call ops rest x.1 U with
    | none=>rw[O] at h;cases h
    | some y =>rw[O] at h;cases h;rw[SU hk rest x.1 O,sa]
  | no =>rw[hw] at h;exact SU hk rest _ h
  | ask t g c=>rw[hw] at h;cases h
  | bad=>rw[hw] at h;cases h
def fW:List Code->St->(St->R)->(Nat->St->R)->(Option b8->R)->R
 | [],σ,kn,_,_=>kn σ
 | c::cs,σ,kn,kx,kr=>cE P call N ks fin c σ (fun J=>fW cs J kn kx kr) kx kr
theorem Fs:∀(xs ys:List Code) (σ:St) (V:St->R) (U:Nat->St->R) (J:Option b8->R),fW P call N ks fin (xs++ys) σ V U J=fW P call N ks fin xs σ (fun O=>fW P call N ks fin ys O V U J) U J
 | [],ys,σ,V,U,J=>rfl
 | c::cs,ys,σ,V,U,J=>by
  show cE P call N ks fin c σ (fun O=>fW P call N ks fin (cs++ys) O V U J) U J=cE P call N ks fin c σ (fun O=>fW P call N ks fin cs O (fun Y=>fW P call N ks fin ys Y V U J) U J) U J
  congr 1
  funext O;exact Fs cs ys O V U J
theorem Xu(n:Nat)(xs:List Code)(σ:St)(U:St->R)(O:Nat->St->R)(J:Option b8->R):fW P call N ks fin xs σ U O J=fW P call N ks fin (xs.take n) σ (fun V=>fW P call N ks fin (xs.drop n) V U O J) O J:=by rw[<- Fs,F4]
def EK:Code->List Code
 | .seq a b=>EK a++EK b
 | .skip => []
 | c => [c]
theorem NI:∀(c:Code) (σ:St) (U:St->R) (O:Nat->St->R) (J:Option b8->R),cE P call N ks fin c σ U O J=fW P call N ks fin (EK c) σ U O J:=by
 intro c
 induction c with
 | seq a b Y Z =>
  intro σ U O J;show cE P call N ks fin a σ (fun V=>cE P call N ks fin b V U O J) O J=fW P call N ks fin (EK a++EK b) σ U O J;rw[Fs,Y]
  congr 1
  funext V;exact Z V U O J
 | _=>intro σ U O J;rfl
def vl:List Code->St->Option (Bool × St)
 | [],σ=>some (true,σ)
 | .region id ops draw::cs,σ=>bif draw||(hZ ks).contains (1000000+id) then none else
  acl P call ops ops.toList (σ.cut id ks) fun O=>vl cs (O.settle ks)
 | .cond c a b::cs,σ=>bif WL ks c&&(!(fS a||fS b)&&(cW a++cW b).eraseDups.isEmpty) then
  match (opd σ c).sh with
  | .one (.c (.d .bool)) =>
   match Lk (kJ P call ks 999999 a σ (fun J=>HD (J.settle ks)) (fun _ _=>r0)) (kJ P call ks 999999 b σ (fun J=>HD (J.settle ks)) (fun _ _=>r0)) with
   | some (some d,_) =>
    match pG (gd (opd σ c).p 0).bool (cE P call N ks fin a (σ.learn ks c true) (fun J=>lg d 0 (J.settle ks).wide) (fun j J=>lg d (j+2) (J.settle ks).wide) bV) (cE P call N ks fin b (σ.learn ks c false) (fun J=>lg d 0 (J.settle ks).wide) (fun j J=>lg d (j+2) (J.settle ks).wide) bV) with
    | some (_,o)=>match vl cs (mkSt d o.pay) with
     | some (b',υ)=>some (o.isSome&&((o.code==0)&&b'),υ)
     | none=>none
    | none=>none
   | _=>none
  | _=>none
  else none
 | .block id (.loop c)::cs,σ=>bif (hZ ks).contains id||((!(σ.shed ks (.loop c)).r.isEmpty)||(fS c || !((cW c).eraseDups == [id]))) then none else
  match vl cs ((σ.shed ks (.loop c)).restrict (mkSt (σ.shed ks (.loop c)).dom (Out.pay (ba (ut P call N ks fin c (σ.shed ks (.loop c)).dom) N (σ.shed ks (.loop c)).flat)))) with
  | some (b',υ)=>some ((ba (ut P call N ks fin c (σ.shed ks (.loop c)).dom) N (σ.shed ks (.loop c)).flat).isSome&&(((ba (ut P call N ks fin c (σ.shed ks (.loop c)).dom) N (σ.shed ks (.loop c)).flat).code==id+2)&&b'),υ)
  | none=>none
 | _,_=>none
theorem JM:∀(l:List Code) (σ:St) {b:Bool} {Y:St} (J:St->R) (U:Nat->St->R) (V:Option b8->R),vl P call N ks fin l σ=some (b,Y)->fW P call N ks fin l σ J U V=gO b (J Y)
 | [],σ,b,Y,J,U,V,h=>by unfold vl at h;cases h;exact (YO _).symm
 | .region id ops draw::cs,σ,b,Y,J,U,V,h=>by
  unfold vl at h;cases O:(draw||(hZ ks).contains (1000000+id)) with
  | true=>rw[O] at h;cases h
  | false =>
   rw[O,f5] at h;obtain⟨h1,Z⟩:draw=false/\(hZ ks).contains (1000000+id)=false:=by cases draw <;> simp_all
   unfold fW cE;rw[Z,f5,h1,f5];exact SU P call (fun a0 b' a1 h'=>JM cs (a0.settle ks) J U V h') _ _ h
 | .cond c a b2::cs,σ,b,Y,J,U,V,h=>by
  unfold vl at h;cases O:(WL ks c&&(!(fS a||fS b2)&&(cW a++cW b2).eraseDups.isEmpty)) with
  | false=>rw[O] at h;cases h
  | true =>
   rw[O,f8] at h;rw[a9,a9] at O;obtain⟨h1,Z,h3⟩:=O;have Z:(fS a||fS b2)=false:=by simpa using Z
   have h3:(cW a++cW b2).eraseDups = []:=by simpa using h3
   split at h
   ·rename_i hsh
    split at h
    ·rename_i d x hf
     split at h
     ·rename_i y o hr
      split at h
      ·rename_i b' υ hs;cases h;unfold fW cE;rw[hsh];dsimp only;rw[h1,f8,hf];dsimp only;rw[hr];dsimp only;rw[Z,h3];unfold BH;dsimp only;rw[JM cs _ J U V hs,sa,sa,Bool.and_assoc]
      ·cases h
     ·cases h
    ·cases h
   ·cases h
 | .block id (.loop c)::cs,σ,b,Y,J,U,V,h=>by
  unfold vl at h;cases O:((hZ ks).contains id||((!(σ.shed ks (.loop c)).r.isEmpty)||(fS c || !((cW c).eraseDups == [id])))) with
  | true=>rw[O] at h;cases h
  | false =>
   rw[O,f5] at h;rw[H6,H6,H6] at O;obtain⟨h1,Z,h3,h4⟩:=O;have h4:(cW c).eraseDups = [id]:=by simpa using h4
   split at h
   ·rename_i b' υ hs;cases h;unfold fW cE;rw[h1,f5];unfold cE;dsimp only;rw[Z,f5,h3,f5,h4];unfold wY;rw[n8,f8];have:=JM cs _ J U V hs;refine (congrArg (fun z=>gO _ (gO _ z)) this).trans ?_;rw[sa,sa,Bool.and_assoc];rfl
   ·cases h
 | .skip::cs,σ,b,Y,J,U,V,h=>by unfold vl at h;cases h
 | .seq _ _::cs,σ,b,Y,J,U,V,h=>by unfold vl at h;cases h
 | .exit _::cs,σ,b,Y,J,U,V,h=>by unfold vl at h;cases h
 | .ret::cs,σ,b,Y,J,U,V,h=>by unfold vl at h;cases h
theorem DB(n:Nat){l:List Code}{σ:St}{b:Bool}{V:St}{J:St->R}{U:Nat->St->R}{O:Option b8->R}(h:vl P call N ks fin (l.take n) σ=some (b,V)){o:Out}(Y:fW P call N ks fin (l.drop n) V J U O=some (bo,o)):fW P call N ks fin l σ J U O=some (bo,bif b then o else none):=by rw[Xu P call N ks fin n,JM P call N ks fin _ _ _ _ _ h,Y];rfl
end
def tR(fn:Func):Code:=
 match fn.body with
 | some c=>c
 | none=>.skip
theorem ZS{P:Program}{call:FuncId->List T->Option (T × Bool)}{N:Nat}{ks:List Nat}{fn:Func}{rs:Sh}{cs:List Ce}{ds:b8}{rest:List T}{r:R}
  (O:fn.body=some (tR fn)) (J:(gY fn.ntmps (tR fn)&&Nat.ble (⟨.tup [.agg cs],ds⟩::rest:List T).length fn.ntmps&&Nat.ble fn.ntmps 1000000)=true)
  (h:fW P call N ks (hY P fn rs) (EK (tR fn)) (EW cs ds rest) (fun σ=>bV (hY P fn rs σ)) (fun _ _=>none) bV=r) :
  vh P call N ks fn rs (⟨.tup [.agg cs],ds⟩::rest)=r:=by
 unfold vh;rw[O];dsimp only;rw[J,f8,NI];exact h
def sQ:Ent:=HT [1000028,1000057]
theorem Aa:aw f4 sQ:=rF _
abbrev eK:=find [ye,pN,EH,rJ,qM,jE,pc,jf,uJ,fZ,gP,gQ,zu,jc,sG,sQ]
abbrev eJ:=[0,1,4,5,6,7,8,9,10,11,16,24,34,42,50,60,74,90,101,121,134,139,153,167,1000034,3000021,3000025,3000029,3000030,3000032,10000016,10000024,6000005,8000006,9000060,9000074,9000090,4000005]
abbrev d9:List Ce:=[.d si,.own (4,1) true 41,.own (4,2) true 41,.own (4,3) true 108,.own (4,4) true 93,.own (4,5) true 75,.own (4,6) true 3,.own (4,7) true 3,.d si]
abbrev e8:List Ce:=[.d si,.d (.sl 41),.d (.sl 41),.d (.sl 108),.d (.sl 93),.own (6,705) false 75,.d (.sl 3),.d (.sl 3),.d si]
def iL(N:Nat)(p q:b8):b8->Out:=aeU f4 eK N eJ (hY f4 Tryz.f133 (.tup [.agg [.any],.agg d8,.agg d7])) Tryz.f133 0 ([(0,.one (.c (.ptr 1000000 0))),(1,ri),(4,.one (.c (.ptr 4 0))),(5,sd (.sl 41)),(16,rb),(6,.one (.c (.ptr 6 0))),(24,rb),(7,ri),(8,ri)],[(1000000,d8),(4,d9),(6,e8)])
def ac(y:b8):b8:=aa (sub (aa (sub y 9 3) (.i 9)) 1 3) (.i 12)
def ct(J:Out):b8:=bw (sub J.pay 30 9) (gd J.pay 10) (.b (!(gd (ae (sub J.pay 18 3) (.i 3)) 4).bool))
def co(y:b8):b8:=thZ (sub y 21 9) (.i (w64 ((gd y 29).int+1))) (sub ((gd y 23).rows.getD 0 []) 0 2)
def cr(y:b8):b8:=dQ (sub y 21 9) (.i (w64 ((gd y 29).int+1))) [.i 30,.i 35] (.l [])
def cq(y:b8):b8:=aH (sub y 21 9) (.i (w64 ((gd y 29).int+1))) (sub ((gd y 23).rows.getD 0 []) 0 2)
def dm(y:b8):b8:=ae (sub (ae (sub (ac y) 1 3) (.i 4)) 1 3) (.i 3)
def bN(y:b8):b8:=aa (sub (ae (sub (ac y) 1 3) (.i 4)) 1 3) (.i ((gd y 26).rows.length:Int))
def cn(y:b8):b8:=eM (sub y 21 9) (.i (w64 ((gd y 29).int+1))) (sub (af (sub (ac y) 1 3)) 4 2)
def bJ(y:b8):b8:=ah (sub (ac y) 1 3) (sub y 21 9) (.i (w64 (1+(gd (aa (sub y 9 3) (.i 9)) 4).int)))
def aC(y:b8):b8:=rdZ (sub y 21 9) (.i (w64 (1+(gd (aa (sub y 9 3) (.i 9)) 4).int))) (sub (af (sub (ac y) 1 3)) 4 2)
def bg(y:b8):b8:=bw (sub y 21 9) (.i (w64 (1+(gd (aa (sub y 9 3) (.i 9)) 4).int))) (.b (!(gd (ae (sub (ac y) 1 3) (.i 3)) 4).bool))
def kK(y:b8):b8:=(gd y 26).rows.getD (gd (bN y) 4).int.toNat []
def bY(y:b8):b8:=an (sub (bJ y) 1 3)
def bf(y:b8):b8:=bw (sub y 21 9) (.i (w64 (1+(gd (aa (sub y 9 3) (.i 9)) 4).int))) (.b (!(gd (dm y) 4).bool))
def aM(y:b8):b8:=prZ (sub y 21 9) (.i (w64 (1+(gd (aa (sub y 9 3) (.i 9)) 4).int))) (gd (bJ y) 4) (gd (bY y) 4)
def cB(N:Nat)(p q:b8)(y:b8)(J:Out):Out:=
 bif (gd J.pay 12).int != 1 then nx (sub J.pay 0 8++([.i (w64 ((gd J.pay 8).int+1))]++(sub J.pay 15 12++sub J.pay 36 9)))
  else nx (sub J.pay 0 8++([.i (w64 ((gd J.pay 8).int+1))]++sub J.pay 15 21))
def dh(N:Nat)(p q:b8)(y:b8)(J:Out):Out:=
 bif (gd J.pay 12).int != 1 then nx (sub J.pay 0 8++([.i (w64 ((gd J.pay 8).int+1))]++(sub J.pay 16 12++sub J.pay 37 9)))
  else nx (sub J.pay 0 8++([.i (w64 ((gd J.pay 8).int+1))]++sub J.pay 16 21))
def jq(N:Nat)(p q:b8)(y:b8)(J:Out):Out:=
 bif (gd J.pay 12).int != 1 then nx (sub J.pay 0 8++([.i (w64 ((gd J.pay 8).int+1))]++(sub J.pay 18 12++sub J.pay 39 9)))
  else nx (sub J.pay 0 8++([.i (w64 ((gd J.pay 8).int+1))]++sub J.pay 18 21))
def cR(N:Nat)(p q:b8)(y:b8):List b8:= [[gd (aC y) 10],[gd (aC y) 10],[gd (aC y) 9],sub (aC y) 0 9,sub (aC y) 0 11,sub (aC y) 0 11,[gd (af (sub (ac y) 1 3)) 4,gd (af (sub (ac y) 1 3)) 5],sub y 21 9,[gd y 0],[.i (w64 (1+(gd (aa (sub y 9 3) (.i 9)) 4).int))],[gd y 0],[gd y 1],[gd y 2],[gd y 3],[gd y 4],[gd y 5],[gd y 6],[gd y 7],[gd y 8],[.b (ltI (gd y 8).int (gd y 7).int)],[.i (w64 (1+(gd (aa (sub y 9 3) (.i 9)) 4).int))],[.i 0],[gd (ac y) 4],[.i 0],sub (af (sub (ac y) 1 3)) 1 3,sub y 12 9,sub y 21 9,sub (aC y) 0 9]
def dR(N:Nat)(p q:b8)(y:b8):List b8:= [[gd (aM y) 9],[gd (aM y) 9],sub (aM y) 0 9,sub (aM y) 0 10,sub (aM y) 0 10,[gd (bY y) 4],[gd (bJ y) 4],sub y 21 9,sub y 21 9,[gd y 0],[.i (w64 (1+(gd (aa (sub y 9 3) (.i 9)) 4).int))],[gd y 0],[.i (w64 (1+(gd (aa (sub y 9 3) (.i 9)) 4).int))],[gd y 0],[gd y 1],[gd y 2],[gd y 3],[gd y 4],[gd y 5],[gd y 6],[gd y 7],[gd y 8],[.b (ltI (gd y 8).int (gd y 7).int)],[.i (w64 (1+(gd (aa (sub y 9 3) (.i 9)) 4).int))],[.i 0],[gd (ac y) 4],[.i 0],[.i 0],sub (bY y) 1 3,sub y 12 9,sub y 21 9,sub (aM y) 0 9]
def cS(N:Nat)(p q:b8)(y:b8):List b8:= [[gd (kK y) 0],[gd (kK y) 0],[.l [[.l (gd y 26).rows,.i (gd (bN y) 4).int]]],[.l [[.l (gd y 26).rows,.i (gd (bN y) 4).int]]],[gd (bN y) 4],[.i ((gd y 26).rows.length:Int)],[gd y 26],[gd y 26],[.i 0],[gd y 0],[.i 0],[gd y 0],[gd y 1],[gd y 2],[gd y 3],[gd y 4],[gd y 5],[gd y 6],[gd y 7],[gd y 8],[.b (ltI (gd y 8).int (gd y 7).int)],[.i 0],[.i 1],[gd (ac y) 4],[.i 0],[.i 0],[.i 0],[.b (!(gd (ae (sub (ac y) 1 3) (.i 4)) 4).bool)],sub (bN y) 1 3,sub y 12 9,sub y 21 9,sub y 21 9]
def pn(N:Nat)(p q:b8)(y:b8)(J:Out):List b8:= [[gd (bw (sub J.pay 30 9) (gd J.pay 10) (.b (!(gd (ae (sub J.pay 18 3) (.i 3)) 4).bool))) 9],[gd (bw (sub J.pay 30 9) (gd J.pay 10) (.b (!(gd (ae (sub J.pay 18 3) (.i 3)) 4).bool))) 9],sub (bw (sub J.pay 30 9) (gd J.pay 10) (.b (!(gd (ae (sub J.pay 18 3) (.i 3)) 4).bool))) 0 9,sub (bw (sub J.pay 30 9) (gd J.pay 10) (.b (!(gd (ae (sub J.pay 18 3) (.i 3)) 4).bool))) 0 10,sub (bw (sub J.pay 30 9) (gd J.pay 10) (.b (!(gd (ae (sub J.pay 18 3) (.i 3)) 4).bool))) 0 10,[.b (!(gd (ae (sub J.pay 18 3) (.i 3)) 4).bool)],[gd (ae (sub J.pay 18 3) (.i 3)) 4],sub J.pay 30 9,[gd J.pay 0],[gd J.pay 10],[gd J.pay 0],[gd J.pay 1],[gd J.pay 2],[gd J.pay 3],[gd J.pay 4],[gd J.pay 5],[gd J.pay 6],[gd J.pay 7],[gd J.pay 8],[gd J.pay 9],[gd J.pay 10],[gd J.pay 11],[gd J.pay 13],[gd J.pay 14],[gd J.pay 15],[gd J.pay 16],[gd J.pay 17],sub (ae (sub J.pay 18 3) (.i 3)) 1 3,sub J.pay 21 9,sub J.pay 30 9,sub (bw (sub J.pay 30 9) (gd J.pay 10) (.b (!(gd (ae (sub J.pay 18 3) (.i 3)) 4).bool))) 0 9]
def gG(N:Nat)(p q:b8)(y:b8):List b8:= [[gd (bf y) 9],[gd (bf y) 9],sub (bf y) 0 9,sub (bf y) 0 10,sub (bf y) 0 10,[.b (!(gd (dm y) 4).bool)],[gd (dm y) 4],sub y 21 9,[gd y 0],[.i (w64 (1+(gd (aa (sub y 9 3) (.i 9)) 4).int))],[gd y 0],[gd y 1],[gd y 2],[gd y 3],[gd y 4],[gd y 5],[gd y 6],[gd y 7],[gd y 8],[.b (ltI (gd y 8).int (gd y 7).int)],[.i (w64 (1+(gd (aa (sub y 9 3) (.i 9)) 4).int))],[.i 0],[gd (ac y) 4],[.i 0],[.i 0],[.i 0],[.b (!(gd (ae (sub (ac y) 1 3) (.i 4)) 4).bool)],sub (dm y) 1 3,sub y 12 9,sub y 21 9,sub (bf y) 0 9]
def gw(N:Nat)(p q:b8)(y:b8):List b8:= [[gd (bg y) 9],[gd (bg y) 9],sub (bg y) 0 9,sub (bg y) 0 10,sub (bg y) 0 10,[.b (!(gd (ae (sub (ac y) 1 3) (.i 3)) 4).bool)],[gd (ae (sub (ac y) 1 3) (.i 3)) 4],sub y 21 9,[gd y 0],[.i (w64 (1+(gd (aa (sub y 9 3) (.i 9)) 4).int))],[gd y 0],[gd y 1],[gd y 2],[gd y 3],[gd y 4],[gd y 5],[gd y 6],[gd y 7],[gd y 8],[.b (ltI (gd y 8).int (gd y 7).int)],[.i (w64 (1+(gd (aa (sub y 9 3) (.i 9)) 4).int))],[.i 0],[gd (ac y) 4],[.i 0],[.i 0],[.i 0],[.i 0],sub (ae (sub (ac y) 1 3) (.i 3)) 1 3,sub y 12 9,sub y 21 9,sub (bg y) 0 9]
def po(N:Nat)(p q:b8)(y:b8):List b8:= [[gd (cn y) 10],[gd (cn y) 10],[gd (cn y) 9],sub (cn y) 0 9,sub (cn y) 0 11,sub (cn y) 0 11,[gd (af (sub (ac y) 1 3)) 4,gd (af (sub (ac y) 1 3)) 5],[.i (w64 ((gd y 29).int+1))],[gd y 29],sub y 21 9,[gd y 0],[.i 0],[gd y 0],[gd y 1],[gd y 2],[gd y 3],[gd y 4],[gd y 5],[gd y 6],[gd y 7],[gd y 8],[.b (ltI (gd y 8).int (gd y 7).int)],[.i (w64 (1+(gd (aa (sub y 9 3) (.i 9)) 4).int))],[.i 0],[gd (ac y) 4],[.i 0],[.i 0],[.i 0],[.b ((gd (ac y) 4).int==9)],sub (af (sub (ac y) 1 3)) 1 3,sub y 12 9,sub y 21 9,sub (cn y) 0 9]
def pg(N:Nat)(p q:b8)(y:b8):List b8:= [[gd (cq y) 9],[gd (cq y) 9],sub (cq y) 0 9,sub (cq y) 0 10,sub (cq y) 0 10,[gd ((gd y 23).rows.getD 0 []) 0,gd ((gd y 23).rows.getD 0 []) 1],[.l [[.l (gd y 23).rows,.i 0]]],[gd y 23],[.i 0],[.i (w64 ((gd y 29).int+1))],[gd y 29],[.i 0],sub y 21 9,[gd y 0],[gd y 1],[gd y 2],[gd y 3],[gd y 4],[gd y 5],[gd y 6],[gd y 7],[gd y 8],[.b (ltI (gd y 8).int (gd y 7).int)],[.i (w64 (1+(gd (aa (sub y 9 3) (.i 9)) 4).int))],[.i 0],[gd (ac y) 4],[.i 0],[.i 0],[.i 0],[.b ((gd (ac y) 4).int==9)],[.b ((gd (ac y) 4).int==10)],[.b (ltI 0 ((gd y 23).rows.length:Int))],sub (ac y) 1 3,sub y 12 9,sub y 21 9,sub (cq y) 0 9]
def pE(N:Nat)(p q:b8)(y:b8):List b8:= [[gd (co y) 9],[gd (co y) 9],sub (co y) 0 9,sub (co y) 0 10,sub (co y) 0 10,[gd ((gd y 23).rows.getD 0 []) 0,gd ((gd y 23).rows.getD 0 []) 1],[.l [[.l (gd y 23).rows,.i 0]]],[gd y 23],[.i 0],[.i (w64 ((gd y 29).int+1))],[gd y 29],[.i 0],sub y 21 9,[gd y 0],[gd y 1],[gd y 2],[gd y 3],[gd y 4],[gd y 5],[gd y 6],[gd y 7],[gd y 8],[.b (ltI (gd y 8).int (gd y 7).int)],[.i (w64 (1+(gd (aa (sub y 9 3) (.i 9)) 4).int))],[.i 0],[gd (ac y) 4],[.i 0],[.i 0],[.i 0],[.b ((gd (ac y) 4).int==9)],[.b ((gd (ac y) 4).int==10)],[.b (ltI 0 ((gd y 23).rows.length:Int))],[gd (ae (sub (ac y) 1 3) (.i 2)) 4],sub (ae (sub (ac y) 1 3) (.i 2)) 1 3,sub y 12 9,sub y 21 9,sub (co y) 0 9]
def fo(N:Nat)(p q:b8)(y:b8)(J:Out):Out:=
 (let O:Out:=(nd ((be (gd J.pay 18) (gd J.pay 19))&&true) (nd (((be (gd J.pay 18) (gd J.pay 19))&&true)&&(ec (pn N p q y J) (pn N p q y J))) (nx (sub J.pay 0 12++([gd (ct J) 9]++(sub J.pay 13 5++([gd (ae (sub J.pay 18 3) (.i 3)) 1,gd (ae (sub J.pay 18 3) (.i 3)) 2,gd (ae (sub J.pay 18 3) (.i 3)) 3]++(sub J.pay 21 18++sub (ct J) 0 9))))))));
  nd O.isSome (jq N p q y O))
def cF(N:Nat)(p q:b8)(y:b8)(J:Out):Out:=
 bif (gd J.pay 12).int != 1 then nx (sub J.pay 0 8++([.i (w64 ((gd J.pay 8).int+1))]++(sub J.pay 18 12++sub J.pay 39 9)))
  else nx (sub J.pay 0 8++([.i (w64 ((gd J.pay 8).int+1))]++sub J.pay 18 21))
def jp(N:Nat)(p q:b8)(y:b8)(J:Out):Out:=
 bif (gd J.pay 12).int != 1 then nx (sub J.pay 0 8++([.i (w64 ((gd J.pay 8).int+1))]++(sub J.pay 18 12++sub J.pay 39 9)))
  else nx (sub J.pay 0 8++([.i (w64 ((gd J.pay 8).int+1))]++sub J.pay 18 21))
theorem Gh(N:Nat)(p q:b8)(y:b8):(iL N p q) (sub y 0 30) =
 bif ltI (gd y 8).int (gd y 7).int then nd (be (gd y 9) (gd y 10)) (nd (be (gd (aa [gd y 9,gd y 10,gd y 11] (.i 9)) 1) (gd (aa [gd y 9,gd y 10,gd y 11] (.i 9)) 2)) (bif (gd (ac y) 4).int==0 then (let O:Out:=(nd ((be (gd (ac y) 1) (gd (ac y) 2))&&true) (nd (((be (gd (ac y) 1) (gd (ac y) 2))&&true)&&(ec (cR N p q y) (cR N p q y))) (nx (sub y 0 9++([.b (ltI (gd y 8).int (gd y 7).int),.i (w64 (1+(gd (aa [gd y 9,gd y 10,gd y 11] (.i 9)) 4).int)),.i 0,gd (aC y) 10,gd (ac y) 4,.b true,gd (af (sub (ac y) 1 3)) 1,gd (af (sub (ac y) 1 3)) 2,gd (af (sub (ac y) 1 3)) 3]++(sub y 12 18++sub (aC y) 0 9))))));
  nd O.isSome (cB N p q y O))
 else bif (gd (ac y) 4).int==1 then (let O:Out:=(nd ((be (gd (ac y) 1) (gd (ac y) 2))&&true) (nd (((be (gd (ac y) 1) (gd (ac y) 2))&&true)&&(ec (cR N p q y) (cR N p q y))) (nx (sub y 0 9++([.b (ltI (gd y 8).int (gd y 7).int),.i (w64 (1+(gd (aa [gd y 9,gd y 10,gd y 11] (.i 9)) 4).int)),.i 0,gd (aC y) 10,gd (ac y) 4,.b true,gd (af (sub (ac y) 1 3)) 1,gd (af (sub (ac y) 1 3)) 2,gd (af (sub (ac y) 1 3)) 3]++(sub y 12 18++sub (aC y) 0 9))))));
  nd O.isSome (cB N p q y O))
 else bif (gd (ac y) 4).int==2 then (let O:Out:=(nd ((be (gd (ac y) 1) (gd (ac y) 2))&&true) (nd (((be (gd (ac y) 1) (gd (ac y) 2))&&true)&&(ec (cR N p q y) (cR N p q y))) (nx (sub y 0 9++([.b (ltI (gd y 8).int (gd y 7).int),.i (w64 (1+(gd (aa [gd y 9,gd y 10,gd y 11] (.i 9)) 4).int)),.i 0,gd (aC y) 10,gd (ac y) 4,.b true,gd (af (sub (ac y) 1 3)) 1,gd (af (sub (ac y) 1 3)) 2,gd (af (sub (ac y) 1 3)) 3]++(sub y 12 18++sub (aC y) 0 9))))));
  nd O.isSome (cB N p q y O))
 else bif (gd (ac y) 4).int==3 then (let O:Out:=(nd ((be (gd (ac y) 1) (gd (ac y) 2))&&true) (nd (((be (gd (ac y) 1) (gd (ac y) 2))&&true)&&(ec (cR N p q y) (cR N p q y))) (nx (sub y 0 9++([.b (ltI (gd y 8).int (gd y 7).int),.i (w64 (1+(gd (aa [gd y 9,gd y 10,gd y 11] (.i 9)) 4).int)),.i 0,gd (aC y) 10,gd (ac y) 4,.b true,gd (af (sub (ac y) 1 3)) 1,gd (af (sub (ac y) 1 3)) 2,gd (af (sub (ac y) 1 3)) 3]++(sub y 12 18++sub (aC y) 0 9))))));
  nd O.isSome (cB N p q y O))
 else bif (gd (ac y) 4).int==4 then (let U:Out:=(nd ((be (gd (ac y) 1) (gd (ac y) 2)&&leI ((gd y 25).rows.length:Int) 1000000)&&((be (gd (bJ y) 1) (gd (bJ y) 2))&&true)) (ndN 3 (((be (gd (ac y) 1) (gd (ac y) 2)&&leI ((gd y 25).rows.length:Int) 1000000)&&((be (gd (bJ y) 1) (gd (bJ y) 2))&&true))&&(ec (dR N p q y) (dR N p q y))) (nx (sub y 0 9++([.b (ltI (gd y 8).int (gd y 7).int),.i (w64 (1+(gd (aa [gd y 9,gd y 10,gd y 11] (.i 9)) 4).int)),.i 0,gd (aM y) 9,gd (ac y) 4,.b false,.b true,gd (bY y) 1,gd (bY y) 2,gd (bY y) 3]++(sub y 12 18++sub (aM y) 0 9))))));
  nd U.isSome (dh N p q y U))
 else bif (gd (ac y) 4).int==5 then (let U:Out:=(nd ((be (gd (ac y) 1) (gd (ac y) 2)&&leI ((gd y 25).rows.length:Int) 1000000)&&((be (gd (bJ y) 1) (gd (bJ y) 2))&&true)) (ndN 3 (((be (gd (ac y) 1) (gd (ac y) 2)&&leI ((gd y 25).rows.length:Int) 1000000)&&((be (gd (bJ y) 1) (gd (bJ y) 2))&&true))&&(ec (dR N p q y) (dR N p q y))) (nx (sub y 0 9++([.b (ltI (gd y 8).int (gd y 7).int),.i (w64 (1+(gd (aa [gd y 9,gd y 10,gd y 11] (.i 9)) 4).int)),.i 0,gd (aM y) 9,gd (ac y) 4,.b false,.b true,gd (bY y) 1,gd (bY y) 2,gd (bY y) 3]++(sub y 12 18++sub (aM y) 0 9))))));
  nd U.isSome (dh N p q y U))
 else bif (gd (ac y) 4).int==6 then (let U:Out:=(nd ((be (gd (ac y) 1) (gd (ac y) 2)&&leI ((gd y 25).rows.length:Int) 1000000)&&((be (gd (bJ y) 1) (gd (bJ y) 2))&&true)) (ndN 3 (((be (gd (ac y) 1) (gd (ac y) 2)&&leI ((gd y 25).rows.length:Int) 1000000)&&((be (gd (bJ y) 1) (gd (bJ y) 2))&&true))&&(ec (dR N p q y) (dR N p q y))) (nx (sub y 0 9++([.b (ltI (gd y 8).int (gd y 7).int),.i (w64 (1+(gd (aa [gd y 9,gd y 10,gd y 11] (.i 9)) 4).int)),.i 0,gd (aM y) 9,gd (ac y) 4,.b false,.b true,gd (bY y) 1,gd (bY y) 2,gd (bY y) 3]++(sub y 12 18++sub (aM y) 0 9))))));
  nd U.isSome (dh N p q y U))
 else bif (gd (ac y) 4).int==7 then bif ltI 0 ((gd y 26).rows.length:Int) then nd (be (gd (ac y) 1) (gd (ac y) 2)) (bif !(gd (ae (sub (ac y) 1 3) (.i 4)) 4).bool then (let V:Out:=(nd ((be (gd (ae (sub (ac y) 1 3) (.i 4)) 1) (gd (ae (sub (ac y) 1 3) (.i 4)) 2))&&((al (gd (bN y) 4).int (gd y 26).rows.length)&&true)) (nd (((be (gd (ae (sub (ac y) 1 3) (.i 4)) 1) (gd (ae (sub (ac y) 1 3) (.i 4)) 2))&&((al (gd (bN y) 4).int (gd y 26).rows.length)&&true))&&(ec (cS N p q y) (cS N p q y))) (nd (((be (gd (ae (sub (ac y) 1 3) (.i 4)) 1) (gd (ae (sub (ac y) 1 3) (.i 4)) 2))&&((al (gd (bN y) 4).int (gd y 26).rows.length)&&true))&&(ec (cS N p q y) (cS N p q y))) (nx (sub y 0 9++([.b (ltI (gd y 8).int (gd y 7).int),gd (kK y) 0,.i 0,.i 1,gd (ac y) 4,.b false,.b false,.b true,.b (!(gd (ae (sub (ac y) 1 3) (.i 4)) 4).bool),gd (bN y) 1,gd (bN y) 2,gd (bN y) 3]++(sub y 12 18++sub y 21 9)))))));
  nd V.isSome (fo N p q y V))
 else (let J:Out:=(nd ((be (gd (ae (sub (ac y) 1 3) (.i 4)) 1) (gd (ae (sub (ac y) 1 3) (.i 4)) 2))&&true) (nd (((be (gd (ae (sub (ac y) 1 3) (.i 4)) 1) (gd (ae (sub (ac y) 1 3) (.i 4)) 2))&&true)&&(ec (gG N p q y) (gG N p q y))) (nx (sub y 0 9++([.b (ltI (gd y 8).int (gd y 7).int),.i (w64 (1+(gd (aa [gd y 9,gd y 10,gd y 11] (.i 9)) 4).int)),.i 0,gd (bf y) 9,gd (ac y) 4,.b false,.b false,.b true,.b (!(gd (ae (sub (ac y) 1 3) (.i 4)) 4).bool),gd (dm y) 1,gd (dm y) 2,gd (dm y) 3]++(sub y 12 18++sub (bf y) 0 9))))));
  nd J.isSome (cF N p q y J)))
 else (let J:Out:=(nd ((be (gd (ac y) 1) (gd (ac y) 2))&&true) (nd (((be (gd (ac y) 1) (gd (ac y) 2))&&true)&&(ec (gw N p q y) (gw N p q y))) (nx (sub y 0 9++([.b (ltI (gd y 8).int (gd y 7).int),.i (w64 (1+(gd (aa [gd y 9,gd y 10,gd y 11] (.i 9)) 4).int)),.i 0,gd (bg y) 9,gd (ac y) 4,.b false,.b false,.b true,.b false,gd (ae (sub (ac y) 1 3) (.i 3)) 1,gd (ae (sub (ac y) 1 3) (.i 3)) 2,gd (ae (sub (ac y) 1 3) (.i 3)) 3]++(sub y 12 18++sub (bg y) 0 9))))));
  nd J.isSome (cF N p q y J))
 else bif (gd (ac y) 4).int==8 then bif ltI 0 ((gd y 26).rows.length:Int) then nd (be (gd (ac y) 1) (gd (ac y) 2)) (bif !(gd (ae (sub (ac y) 1 3) (.i 4)) 4).bool then (let V:Out:=(nd ((be (gd (ae (sub (ac y) 1 3) (.i 4)) 1) (gd (ae (sub (ac y) 1 3) (.i 4)) 2))&&((al (gd (bN y) 4).int (gd y 26).rows.length)&&true)) (nd (((be (gd (ae (sub (ac y) 1 3) (.i 4)) 1) (gd (ae (sub (ac y) 1 3) (.i 4)) 2))&&((al (gd (bN y) 4).int (gd y 26).rows.length)&&true))&&(ec (cS N p q y) (cS N p q y))) (nd (((be (gd (ae (sub (ac y) 1 3) (.i 4)) 1) (gd (ae (sub (ac y) 1 3) (.i 4)) 2))&&((al (gd (bN y) 4).int (gd y 26).rows.length)&&true))&&(ec (cS N p q y) (cS N p q y))) (nx (sub y 0 9++([.b (ltI (gd y 8).int (gd y 7).int),gd (kK y) 0,.i 0,.i 1,gd (ac y) 4,.b false,.b false,.b true,.b (!(gd (ae (sub (ac y) 1 3) (.i 4)) 4).bool),gd (bN y) 1,gd (bN y) 2,gd (bN y) 3]++(sub y 12 18++sub y 21 9)))))));
  nd V.isSome (fo N p q y V))
 else (let J:Out:=(nd ((be (gd (ae (sub (ac y) 1 3) (.i 4)) 1) (gd (ae (sub (ac y) 1 3) (.i 4)) 2))&&true) (nd (((be (gd (ae (sub (ac y) 1 3) (.i 4)) 1) (gd (ae (sub (ac y) 1 3) (.i 4)) 2))&&true)&&(ec (gG N p q y) (gG N p q y))) (nx (sub y 0 9++([.b (ltI (gd y 8).int (gd y 7).int),.i (w64 (1+(gd (aa [gd y 9,gd y 10,gd y 11] (.i 9)) 4).int)),.i 0,gd (bf y) 9,gd (ac y) 4,.b false,.b false,.b true,.b (!(gd (ae (sub (ac y) 1 3) (.i 4)) 4).bool),gd (dm y) 1,gd (dm y) 2,gd (dm y) 3]++(sub y 12 18++sub (bf y) 0 9))))));
  nd J.isSome (cF N p q y J)))
 else (let J:Out:=(nd ((be (gd (ac y) 1) (gd (ac y) 2))&&true) (nd (((be (gd (ac y) 1) (gd (ac y) 2))&&true)&&(ec (gw N p q y) (gw N p q y))) (nx (sub y 0 9++([.b (ltI (gd y 8).int (gd y 7).int),.i (w64 (1+(gd (aa [gd y 9,gd y 10,gd y 11] (.i 9)) 4).int)),.i 0,gd (bg y) 9,gd (ac y) 4,.b false,.b false,.b true,.b false,gd (ae (sub (ac y) 1 3) (.i 3)) 1,gd (ae (sub (ac y) 1 3) (.i 3)) 2,gd (ae (sub (ac y) 1 3) (.i 3)) 3]++(sub y 12 18++sub (bg y) 0 9))))));
  nd J.isSome (cF N p q y J))
 else bif (gd (ac y) 4).int==9 then (let Y:Out:=(nd ((be (gd (ac y) 1) (gd (ac y) 2))&&true) (ndN 5 (((be (gd (ac y) 1) (gd (ac y) 2))&&true)&&(ec (po N p q y) (po N p q y))) (nx (sub y 0 9++([.b (ltI (gd y 8).int (gd y 7).int),.i (w64 (1+(gd (aa [gd y 9,gd y 10,gd y 11] (.i 9)) 4).int)),.i 0,gd (cn y) 10,gd (ac y) 4,.b false,.b false,.b false,.b ((gd (ac y) 4).int==9),gd (af (sub (ac y) 1 3)) 1,gd (af (sub (ac y) 1 3)) 2,gd (af (sub (ac y) 1 3)) 3]++(sub y 12 18++sub (cn y) 0 9))))));
  nd Y.isSome (jp N p q y Y))
 else bif (gd (ac y) 4).int==10 then bif ltI 0 ((gd y 23).rows.length:Int) then nd ((al 0 (gd y 23).rows.length)&&true) (nd (((al 0 (gd y 23).rows.length)&&true)&&(ec (pg N p q y) (pg N p q y))) (nd (be (gd (ac y) 1) (gd (ac y) 2)) (bif (gd (ae (sub (ac y) 1 3) (.i 2)) 4).bool then nd ((al 0 (gd y 23).rows.length)&&true) (nd (((al 0 (gd y 23).rows.length)&&true)&&(ec (pE N p q y) (pE N p q y))) (bif (gd (co y) 9).int != 1 then nx (sub y 0 8++([.i (w64 ((gd y 8).int+1)),gd (ae (sub (ac y) 1 3) (.i 2)) 1,gd (ae (sub (ac y) 1 3) (.i 2)) 2,gd (ae (sub (ac y) 1 3) (.i 2)) 3]++(sub y 12 9++sub (co y) 0 9)))
 else nx (sub y 0 8++([.i (w64 ((gd y 8).int+1)),gd (ae (sub (ac y) 1 3) (.i 2)) 1,gd (ae (sub (ac y) 1 3) (.i 2)) 2,gd (ae (sub (ac y) 1 3) (.i 2)) 3]++sub y 12 18))))
 else bif (gd (cq y) 9).int != 1 then nx (sub y 0 8++([.i (w64 ((gd y 8).int+1)),gd (ae (sub (ac y) 1 3) (.i 2)) 1,gd (ae (sub (ac y) 1 3) (.i 2)) 2,gd (ae (sub (ac y) 1 3) (.i 2)) 3]++(sub y 12 9++sub (cq y) 0 9)))
 else nx (sub y 0 8++([.i (w64 ((gd y 8).int+1)),gd (ae (sub (ac y) 1 3) (.i 2)) 1,gd (ae (sub (ac y) 1 3) (.i 2)) 2,gd (ae (sub (ac y) 1 3) (.i 2)) 3]++sub y 12 18)))))
 else bif 1 != 1 then nx (sub y 0 8++([.i (w64 ((gd y 8).int+1)),gd (ac y) 1,gd (ac y) 2,gd (ac y) 3]++sub y 12 18))
 else nx (sub y 0 8++([.i (w64 ((gd y 8).int+1)),gd (ac y) 1,gd (ac y) 2,gd (ac y) 3]++sub y 12 18))
 else nd (aiA (.l [])) (bif (gd (cr y) 9).int != 1 then nx (sub y 0 8++([.i (w64 ((gd y 8).int+1)),gd (ac y) 1,gd (ac y) 2,gd (ac y) 3]++(sub y 12 9++sub (cr y) 0 9)))
 else nx (sub y 0 8++([.i (w64 ((gd y 8).int+1)),gd (ac y) 1,gd (ac y) 2,gd (ac y) 3]++sub y 12 18)))))
 else ex 0 (sub y 0 30):=by kernel_rfl
def aG(J:Out):b8:=ae (sub (aa (sub J.pay 5 3) (.i 4)) 1 3) (.i 3)
def am(J:Out):b8:=Wx (gd (aa (sub J.pay 5 3) (.i 4)) 4) (gd J.pay 3)
def cL(J:Out):b8:=aa (sub J.pay 7 3) (.i (w64 ((gd J.pay 1).int+1)))
def lF(N:Nat)(p q:b8)(J:Out):Out:=
 some (1,[.i 0,gd J.pay 9,gd J.pay 10,gd J.pay 11]++sub J.pay 21 9)
def sK(N:Nat)(p q:b8)(J:Out):Out:=
 nd (J.code==0) (nd (be (gd J.pay 7) (gd J.pay 8)) ((let O:=ba (iL N p q) N (sub J.pay 0 7++([gd (cL J) 4,.i 0,gd (cL J) 1,gd (cL J) 2,gd (cL J) 3]++sub J.pay 10 18));
   nd O.isSome (nd (O.code==2) (lF N p q O)))))
def sL(N:Nat)(p q:b8)(J:Out):Out:=
 nd (J.code==0) (nd (be (gd J.pay 5) (gd J.pay 6)) (nd (leI ((gd J.pay 3).rows.length:Int) 1000) (nd (be (gd (aa (sub J.pay 5 3) (.i 4)) 1) (gd (aa (sub J.pay 5 3) (.i 4)) 2)) ((let O:Out:=(bif (gd (aG J) 4).bool then nd (be (gd (aG J) 1) (gd (aG J) 2)) (bif !(aY [gd (sub (am J) 0 9) 0,gd (sub (am J) 0 9) 1,gd (sub (am J) 0 9) 2,fh (.l []) (gd (an (sub (aG J) 1 3)) 4),gd (sub (am J) 0 9) 4,gd (sub (am J) 0 9) 5,gd (sub (am J) 0 9) 6,gd (sub (am J) 0 9) 7,gd (sub (am J) 0 9) 8]) then nx (sub J.pay 0 5++([.i 0,gd (aG J) 4,gd (an (sub (aG J) 1 3)) 1,gd (an (sub (aG J) 1 3)) 2,gd (an (sub (aG J) 1 3)) 3]++(sub J.pay 8 9++([gd (sub (am J) 0 9) 0,gd (sub (am J) 0 9) 1,gd (sub (am J) 0 9) 2,.l []]++sub (sub (am J) 0 9) 4 5))))
  else nx (sub J.pay 0 5++([.i 0,gd (aG J) 4,gd (an (sub (aG J) 1 3)) 1,gd (an (sub (aG J) 1 3)) 2,gd (an (sub (aG J) 1 3)) 3]++(sub J.pay 8 9++([gd (sub (am J) 0 9) 0,gd (sub (am J) 0 9) 1,gd (sub (am J) 0 9) 2,fh (.l []) (gd (an (sub (aG J) 1 3)) 4)]++sub (sub (am J) 0 9) 4 5)))))
  else nx (sub J.pay 0 5++([.i 0,gd (aG J) 4,gd (aG J) 1,gd (aG J) 2,gd (aG J) 3]++(sub J.pay 8 9++sub (sub (am J) 0 9) 0 9))));
  nd O.isSome (sK N p q O))))))
def gS(N:Nat)(p q:b8):Out:=
 nd (be (gd p 0) (gd p 1)) ((let J:Out:=(bif (gd (ae (sub p 0 3) (.i 3)) 4).bool then nx [.i 0,gd q 0,.i 0,.l [[.i 0,.i 1000]],gd (ae (sub p 0 3) (.i 3)) 4,gd (ae (sub p 0 3) (.i 3)) 1,gd (ae (sub p 0 3) (.i 3)) 2,gd (ae (sub p 0 3) (.i 3)) 3,.i 0,.l [],.l [],.l [],.l [],.l [],.l [],.l [],.i 0]
  else nx [.i 0,gd q 0,.i 0,.l [[.i 0,.i 30],[.i 35,.i 1000]],gd (ae (sub p 0 3) (.i 3)) 4,gd (ae (sub p 0 3) (.i 3)) 1,gd (ae (sub p 0 3) (.i 3)) 2,gd (ae (sub p 0 3) (.i 3)) 3,.i 0,.l [],.l [],.l [],.l [],.l [],.l [],.l [],.i 0]);
  nd J.isSome (sL N p q J)))
def lE(N:Nat)(p q:b8):Out:=(bif (gd (ae (sub p 0 3) (.i 3)) 4).bool then nx [.i 0,gd q 0,.i 0,.l [[.i 0,.i 1000]],gd (ae (sub p 0 3) (.i 3)) 4,gd (ae (sub p 0 3) (.i 3)) 1,gd (ae (sub p 0 3) (.i 3)) 2,gd (ae (sub p 0 3) (.i 3)) 3,.i 0,.l [],.l [],.l [],.l [],.l [],.l [],.l [],.i 0]
  else nx [.i 0,gd q 0,.i 0,.l [[.i 0,.i 30],[.i 35,.i 1000]],gd (ae (sub p 0 3) (.i 3)) 4,gd (ae (sub p 0 3) (.i 3)) 1,gd (ae (sub p 0 3) (.i 3)) 2,gd (ae (sub p 0 3) (.i 3)) 3,.i 0,.l [],.l [],.l [],.l [],.l [],.l [],.l [],.i 0])
def lC(N:Nat)(p q:b8)(J:Out):Out:=(bif (gd (aG J) 4).bool then nd (be (gd (aG J) 1) (gd (aG J) 2)) (bif !(aY [gd (sub (am J) 0 9) 0,gd (sub (am J) 0 9) 1,gd (sub (am J) 0 9) 2,fh (.l []) (gd (an (sub (aG J) 1 3)) 4),gd (sub (am J) 0 9) 4,gd (sub (am J) 0 9) 5,gd (sub (am J) 0 9) 6,gd (sub (am J) 0 9) 7,gd (sub (am J) 0 9) 8]) then nx (sub J.pay 0 5++([.i 0,gd (aG J) 4,gd (an (sub (aG J) 1 3)) 1,gd (an (sub (aG J) 1 3)) 2,gd (an (sub (aG J) 1 3)) 3]++(sub J.pay 8 9++([gd (sub (am J) 0 9) 0,gd (sub (am J) 0 9) 1,gd (sub (am J) 0 9) 2,.l []]++sub (sub (am J) 0 9) 4 5))))
  else nx (sub J.pay 0 5++([.i 0,gd (aG J) 4,gd (an (sub (aG J) 1 3)) 1,gd (an (sub (aG J) 1 3)) 2,gd (an (sub (aG J) 1 3)) 3]++(sub J.pay 8 9++([gd (sub (am J) 0 9) 0,gd (sub (am J) 0 9) 1,gd (sub (am J) 0 9) 2,fh (.l []) (gd (an (sub (aG J) 1 3)) 4)]++sub (sub (am J) 0 9) 4 5)))))
  else nx (sub J.pay 0 5++([.i 0,gd (aG J) 4,gd (aG J) 1,gd (aG J) 2,gd (aG J) 3]++(sub J.pay 8 9++sub (sub (am J) 0 9) 0 9))))
def lO(N:Nat)(p q:b8)(J:Out):Out:=ba (iL N p q) N (sub J.pay 0 7++([gd (cL J) 4,.i 0,gd (cL J) 1,gd (cL J) 2,gd (cL J) 3]++sub J.pay 10 18))
noncomputable def jm:List Code:=EK (tR Tryz.f133)
def rG:Dom:=([(0,.one (.c (.ptr 1000000 0))),(1,ri),(4,.one (.c (.ptr 4 0))),(5,sd (.sl 41)),(16,rb)],[(1000000,d8),(4,d9)])
def rW:Dom:=([(0,.one (.c (.ptr 1000000 0))),(1,ri),(4,.one (.c (.ptr 4 0))),(5,sd (.sl 41)),(16,rb),(6,.one (.c (.ptr 6 0))),(24,rb)],[(1000000,d8),(4,d9),(6,e8)])
def sq:Dom:=([(0,.one (.c (.ptr 1000000 0))),(1,ri),(4,.one (.c (.ptr 4 0))),(5,sd (.sl 41)),(16,rb),(6,.one (.c (.ptr 6 0))),(24,rb),(7,ri),(8,ri)],[(1000000,d8),(4,d9),(6,e8)])
theorem Ai(N:Nat)(p q:b8):vl f4 eK N eJ (hY f4 Tryz.f133 (.tup [.agg [.any],.agg d8,.agg d7])) (jm.take 4) (EW d8 p [⟨ri,q⟩])=some (be (gd p 0) (gd p 1)&&((lE N p q).isSome&&(((lE N p q).code==0)&&true)),mkSt rG (lE N p q).pay):=by kernel_rfl
theorem AX(N:Nat)(p q:b8)(J:Out):vl f4 eK N eJ (hY f4 Tryz.f133 (.tup [.agg [.any],.agg d8,.agg d7])) ((jm.drop 4).take 3) (mkSt rG J.pay)=some (be (gd J.pay 5) (gd J.pay 6)&&(amE (gd J.pay 3)&&(be (gd (aa (sub J.pay 5 3) (.i 4)) 1) (gd (aa (sub J.pay 5 3) (.i 4)) 2)&&((lC N p q J).isSome&&(((lC N p q J).code==0)&&true)))),mkSt rW (lC N p q J).pay):=by kernel_rfl
theorem AS(N:Nat)(p q:b8)(J:Out):vl f4 eK N eJ (hY f4 Tryz.f133 (.tup [.agg [.any],.agg d8,.agg d7])) (((jm.drop 4).drop 3).take 3) (mkSt rW J.pay)=some (be (gd J.pay 7) (gd J.pay 8)&&((lO N p q J).isSome&&(((lO N p q J).code==2)&&true)),mkSt sq (lO N p q J).pay):=by kernel_rfl
theorem Bj(N:Nat)(p q:b8)(J:Out):fW f4 eK N eJ (hY f4 Tryz.f133 (.tup [.agg [.any],.agg d8,.agg d7])) (((jm.drop 4).drop 3).drop 3) (mkSt sq J.pay) (fun σ=>bV ((hY f4 Tryz.f133 (.tup [.agg [.any],.agg d8,.agg d7])) σ)) (fun _ _=>none) bV=some (bo,lF N p q J):=by kernel_rfl
theorem alj(a b:Bool)(x:Out):(bif a&&b then x else none)=nd a (nd b x):=by cases a <;> rfl
theorem amp(a b:Bool)(x:Out):nd (a&&b) x=nd a (nd b x):=by cases a <;> rfl
theorem Ee(N:Nat)(p q:b8):vh f4 eK N eJ Tryz.f133 (.tup [.agg [.any],.agg d8,.agg d7]) [⟨.tup [.agg d8],p⟩,⟨ri,q⟩]=some (bo,gS N p q):=by
 refine ZS (by kernel_rfl) (by kernel_rfl) ?_;refine (DB _ _ _ _ _ 4 (Ai N p q) (DB _ _ _ _ _ 3 (AX N p q _) (DB _ _ _ _ _ 3 (AS N p q _) (Bj N p q _)))).trans ?_;refine congrArg (fun x=>some (bo,x)) ?_;simp only[D2,alj,amp]
 kernel_rfl
def SR(k:Nat)(X:b8):Prop:=SOk (sub X 0 9)/\(gd X 8).int<=(k:Int)
def ShI(k:Nat)(s:b8):Prop:=s=sub s 0 30/\be (gd s 9) (gd s 10)=true/\(gd s 8).int=(k:Int)/\(gd s 7).int<=120/\SR k (sub s 21 9)/\k<=120
theorem amL{k j:Nat}{X:b8}(h:SR k X)(J:k<=j):SR j X:=⟨h.1,by have:=h.2;omega⟩
theorem Me{k:Nat}{X:b8}(h:SR k X):SR (k+1) X:=⟨h.1,by have:=h.2;omega⟩
theorem ji{k:Nat}{X:b8}(h:SR k X):SR k [gd X 0,gd X 1,gd X 2,gd X 3,gd X 4,gd X 5,gd X 6,gd X 7,gd X 8]:=h
def ajP(z:D):Prop:=z=.l [[.i 0,.i 30],[.i 35,.i 1000]]\/z=.l [[.i 0,.i 1000]]
theorem aaX{n z:D}(hn:inB n.int 0 3=true)(hz:ajP z):SOk [n,.l z.rows,.l [],.l [],.l [],.l [],.l [],.l [],.i 0]:=by
 have U:aV (.l z.rows)=true:=by rcases hz with e | e <;> rw[e] <;> decide
 exact⟨hn,U,rfl,rfl,rfl,rfl,.nil,fun r J=>(E3 J).elim,.nil,fun r J=>(E3 J).elim,fun r J=>(E3 J).elim,fun r J=>(E3 J).elim,fun r J=>(E3 J).elim,fun m O=>(E3 O).elim,.nil,fun r J=>(E3 J).elim,by show ((([]:List b8).length:Int)+ev (.l []) [])<=60;unfold ev;decide⟩
theorem aaw{n z:D}(hn:inB n.int 0 3=true)(hz:ajP z):Wx n z = [n,.l z.rows,.l [],.l [],.l [],.l [],.l [],.l [],.i 0]:=by unfold Wx;have h:aY [n,.l z.rows,.l [],.l [],.l [],.l [],.l [],.l [],.i 0]=true:=(cQ _).2 (aaX hn hz);rw[h];rfl
theorem alH{n z:D}(hn:inB n.int 0 3=true)(hz:ajP z):SR 0 (Wx n z):=by rw[aaw hn hz];exact⟨aaX hn hz,F8 _⟩
theorem QB{k:Nat}{S:b8}(h:SR k S):(D.i (w64 ((gd S 8).int+1))).int<=((k+1:Nat):Int):=by have J:=h.2;have h1:inB (gd S 8).int 0 1000000=true:=h.1.rk;simp only[inB,a9,f7] at h1;rw[aE,br (by omega) (by omega)];omega
theorem QX{k:Nat}{S l:b8}{q:D}(h:SR k S)(J:q.int<=((k+1:Nat):Int))(ok:SOk (sub l 0 9))(e:gd l 8=gd S 8\/gd l 8=q):SR (k+1) l:=by
 have O:=h.2;refine⟨ok,?_⟩;rcases e with e | e <;> rw[e]
 ·omega
 ·exact J
theorem ams{k:Nat}{S:b8}(h:SR k S){n:D}{r:b8}(J:(gd (rdZ S n r) 10).int≠1):SR (k+1) (rdZ S n r):=by rw[XO] at *;have b:=Rx S n r;have c:=b.2 (b.1▸J);exact QX h (QB h) c.1 (.inl c.2)
theorem anc{k:Nat}{S:b8}(h:SR k S){n z u:D}(J:(gd (prZ S n z u) 9).int≠1):SR (k+1) (prZ S n z u):=by rw[Ye] at *;have b:=Rq S n z u;have c:=(b.2 (b.1▸J)).2;exact QX h (QB h) c.1 (.inl c.2)
theorem aid{k:Nat}{S:b8}(h:SR k S){n y:D}(J:(gd (bw S n y) 9).int≠1):SR (k+1) (bw S n y):=by rw[SS] at *;have b:=WI S n y;have c:=(b.2 (b.1▸J)).2.2.2;exact QX h (QB h) c.1 (.inl c.2)
theorem alv{k:Nat}{S:b8}(h:SR k S){r:b8}(J:(gd (eM S (.i (w64 ((gd S 8).int+1))) r) 10).int≠1):SR (k+1) (eM S (.i (w64 ((gd S 8).int+1))) r):=by rw[TT] at *;have b:=Va S (.i (w64 ((gd S 8).int+1))) r;have c:=(b.2 (b.1▸J)).2;exact QX h (QB h) c.1 c.2
theorem akK{k:Nat}{S:b8}(h:SR k S){r:b8}(J:(gd (thZ S (.i (w64 ((gd S 8).int+1))) r) 9).int≠1):SR (k+1) (thZ S (.i (w64 ((gd S 8).int+1))) r):=by rw[Zi] at *;have c:=VN (p:=S) J;exact QX h (QB h) c.ok c.rk
theorem akE{k:Nat}{S l:b8}(h:SR k S)(c:LQ (gd S 8) (.i (w64 ((gd S 8).int+1))) l)(J:(gd l 9).int≠1):SR (k+1) l:=QX h (QB h) (c J).1 (c J).2
theorem akS{k:Nat}{S:b8}(h:SR k S){r:b8}(J:(gd (aH S (.i (w64 ((gd S 8).int+1))) r) 9).int≠1):SR (k+1) (aH S (.i (w64 ((gd S 8).int+1))) r):=akE h (KC rfl) J
theorem akB{k:Nat}{S:b8}(h:SR k S){r:b8}(J:(gd (dQ S (.i (w64 ((gd S 8).int+1))) r (.l [])) 9).int≠1):SR (k+1) (dQ S (.i (w64 ((gd S 8).int+1))) r (.l [])):=akE h (Cw rfl) J
theorem adG{X:b8}{a:Nat}{z:D}(h:be (gd X a) (gd X (a+1))=true)(hz:ltI 0 (z.rows.length:Int)=true):al (gd (aa (sub X a 3) (.i (z.rows.length:Int))) 4).int z.rows.length=true:=by have hz:0<(z.rows.length:Int):=j9 hz;obtain⟨h1,J⟩:=DP (q:=.i (z.rows.length:Int)) h;rw[aE] at J;simp only[al,a9,f7];omega
theorem alh{z:D}(hz:ltI 0 (z.rows.length:Int)=true):al 0 z.rows.length=true:=by have hz:0<(z.rows.length:Int):=j9 hz;simp only[al,a9,f7];omega
theorem anw{b:Bool}(h:(!b)=false):b=true:=by
 cases b with
 | true=>rfl
 | false=>cases h
theorem aed{X:b8}{a:Nat}{s:b8}{x:D}(h:be (gd X a) (gd X (a+1))=true)(hs:leI ((gd s 4).rows.length:Int) 1000000=true):be (gd (ah (sub X a 3) s x) 1) (gd (ah (sub X a 3) s x) 2)=true:=(Gr (p:=sub X a 3) (yU h hs)).1
theorem KW{X:b8}{a:Nat}(h:be (gd X a) (gd X (a+1))=true):be (gd (an (sub X a 3)) 1) (gd (an (sub X a 3)) 2)=true:=(Cz (p:=sub X a 3) h).1
theorem anL(x l:b8)(k:Nat)(h:x.length<=k):gd (x++l) k=gd l (k - x.length):=by unfold gd;rw[f9,f9,A5 h]
theorem anM(x l:b8)(k:Nat)(h:k<x.length):gd (x++l) k=gd x k:=by unfold gd;rw[f9,f9,v9 h]
theorem anK(p:b8):∀(n a:Nat),(sub p a n).length=n
 | 0,_=>rfl
 | n+1,a=>congrArg (· + 1) (anK p n (a+1))
theorem ano(N:Nat)(p q y l:b8)(k:Nat)(hk:k<120)(J:(gd l 7).int<=120)(Y:(gd l 8).int=(k:Int))(O:be (gd l 15) (gd l 16)=true)(hn:SR k (sub l 27 9))(U:(gd l 12).int≠1->SR (k+1) (sub l 36 9)):GG (fun c x=>(c=0/\k<120/\ShI (k+1) x)\/(c≠0/\c=2/\be (gd x 9) (gd x 10)=true/\SR 120 (sub x 21 9))) (cB N p q y (nx l)):=by
 have hw:w64 ((gd l 8).int+1)=((k+1:Nat):Int):=by rw[br (by omega) (by omega)];omega
 exact ch (fun V=>cu (.inl ⟨rfl,hk,aX _,O,hw,J,U (D1.1 V),Nat.succ_le_of_lt hk⟩)) (fun _=>cu (.inl ⟨rfl,hk,aX _,O,hw,J,Me hn,Nat.succ_le_of_lt hk⟩))
theorem anz(N:Nat)(p q y l:b8)(k:Nat)(hk:k<120)(J:(gd l 7).int<=120)(Y:(gd l 8).int=(k:Int))(O:be (gd l 16) (gd l 17)=true)(hn:SR k (sub l 28 9))(U:(gd l 12).int≠1->SR (k+1) (sub l 37 9)):GG (fun c x=>(c=0/\k<120/\ShI (k+1) x)\/(c≠0/\c=2/\be (gd x 9) (gd x 10)=true/\SR 120 (sub x 21 9))) (dh N p q y (nx l)):=by
 have hw:w64 ((gd l 8).int+1)=((k+1:Nat):Int):=by rw[br (by omega) (by omega)];omega
 exact ch (fun V=>cu (.inl ⟨rfl,hk,aX _,O,hw,J,U (D1.1 V),Nat.succ_le_of_lt hk⟩)) (fun _=>cu (.inl ⟨rfl,hk,aX _,O,hw,J,Me hn,Nat.succ_le_of_lt hk⟩))
theorem anq(N:Nat)(p q y l:b8)(k:Nat)(hk:k<120)(J:(gd l 7).int<=120)(Y:(gd l 8).int=(k:Int))(O:be (gd l 18) (gd l 19)=true)(hn:SR k (sub l 30 9))(U:(gd l 12).int≠1->SR (k+1) (sub l 39 9)):GG (fun c x=>(c=0/\k<120/\ShI (k+1) x)\/(c≠0/\c=2/\be (gd x 9) (gd x 10)=true/\SR 120 (sub x 21 9))) (jq N p q y (nx l)):=by
 have hw:w64 ((gd l 8).int+1)=((k+1:Nat):Int):=by rw[br (by omega) (by omega)];omega
 exact ch (fun V=>cu (.inl ⟨rfl,hk,aX _,O,hw,J,U (D1.1 V),Nat.succ_le_of_lt hk⟩)) (fun _=>cu (.inl ⟨rfl,hk,aX _,O,hw,J,Me hn,Nat.succ_le_of_lt hk⟩))
theorem ann(N:Nat)(p q y l:b8)(k:Nat)(hk:k<120)(V:(gd l 7).int<=120)(U:(gd l 8).int=(k:Int))(J:be (gd l 18) (gd l 19)=true)(hn:SR k (sub l 30 9)):GG (fun c x=>(c=0/\k<120/\ShI (k+1) x)\/(c≠0/\c=2/\be (gd x 9) (gd x 10)=true/\SR 120 (sub x 21 9))) (fo N p q y (nx l)):=by have Y:be (gd (ae (sub l 18 3) (.i 3)) 1) (gd (ae (sub l 18 3) (.i 3)) 2)=true:=kf J;refine gjs (K:=jq N p q y) (km (yU J rfl) (km (yU (yU J rfl) (di _)) (pS (anq N p q y _ k hk V U Y hn ?_))));intro O;exact ji (aid hn O)
theorem anl(N:Nat)(p q y l:b8)(k:Nat)(hk:k<120)(J:(gd l 7).int<=120)(Y:(gd l 8).int=(k:Int))(O:be (gd l 18) (gd l 19)=true)(hn:SR k (sub l 30 9))(U:(gd l 12).int≠1->SR (k+1) (sub l 39 9)):GG (fun c x=>(c=0/\k<120/\ShI (k+1) x)\/(c≠0/\c=2/\be (gd x 9) (gd x 10)=true/\SR 120 (sub x 21 9))) (cF N p q y (nx l)):=by
 have hw:w64 ((gd l 8).int+1)=((k+1:Nat):Int):=by rw[br (by omega) (by omega)];omega
 exact ch (fun V=>cu (.inl ⟨rfl,hk,aX _,O,hw,J,U (D1.1 V),Nat.succ_le_of_lt hk⟩)) (fun _=>cu (.inl ⟨rfl,hk,aX _,O,hw,J,Me hn,Nat.succ_le_of_lt hk⟩))
theorem anm(N:Nat)(p q y l:b8)(k:Nat)(hk:k<120)(J:(gd l 7).int<=120)(Y:(gd l 8).int=(k:Int))(O:be (gd l 18) (gd l 19)=true)(hn:SR k (sub l 30 9))(U:(gd l 12).int≠1->SR (k+1) (sub l 39 9)):GG (fun c x=>(c=0/\k<120/\ShI (k+1) x)\/(c≠0/\c=2/\be (gd x 9) (gd x 10)=true/\SR 120 (sub x 21 9))) (jp N p q y (nx l)):=by
 have hw:w64 ((gd l 8).int+1)=((k+1:Nat):Int):=by rw[br (by omega) (by omega)];omega
 exact ch (fun V=>cu (.inl ⟨rfl,hk,aX _,O,hw,J,U (D1.1 V),Nat.succ_le_of_lt hk⟩)) (fun _=>cu (.inl ⟨rfl,hk,aX _,O,hw,J,Me hn,Nat.succ_le_of_lt hk⟩))
theorem dsN{l:b8}{k:Nat}{z:D}(hk:k<120)(U:(gd l 7).int<=120)(hz:z.int=(k:Int))(J:(gd l 8).int=w64 (z.int+1))(O:l=sub l 0 30)(V:be (gd l 9) (gd l 10)=true)(hn:SR (k+1) (sub l 21 9)):GG (fun c x=>(c=0/\k<120/\ShI (k+1) x)\/(c≠0/\c=2/\be (gd x 9) (gd x 10)=true/\SR 120 (sub x 21 9))) (nx l):=by
 have hw:(gd l 8).int=((k+1:Nat):Int):=by rw[J,br (by omega) (by omega)];omega
 exact cu (.inl ⟨rfl,hk,O,V,hw,U,hn,Nat.succ_le_of_lt hk⟩)
set_option maxHeartbeats 8000000 in
theorem Cu(p q:b8)(st:b8)(e:st=sub st 0 30)(Y:be (gd st 9) (gd st 10)=true)(hi:(gd st 8).int=0)(U:(gd st 7).int<=120)(hS:SR 0 (sub st 21 9)) :
  GG (fun c l=>c=2/\be (gd l 9) (gd l 10)=true/\SR 120 (sub l 21 9)) (ba (iL 122 p q) 122 st):=by
 refine tO (I:=ShI) 120 (fun k s hs=>?_) 122 0 st ⟨e,Y,hi,U,hS,y5 _⟩ (by decide) (y5 _);obtain⟨e,Y,hi,U,hS,hk⟩:=hs;have O:ltI (gd s 8).int (gd s 7).int=true->k<120:=fun Z=>by have Z:(gd s 8).int<(gd s 7).int:=j9 Z;omega
 have a0:leI ((gd s 25).rows.length:Int) 1000000=true:=bb (by have:(gd s 25).rows.length<=40:=((bU _).1 hS.1.lk).2.2;omega);have b5:leI ((gd (sub s 21 9) 4).rows.length:Int) 1000000=true:=a0;refine grd e (geq (Gh _ _ _ s) (ch (fun V=>gnd ?_ (gnd ?_ (ch (fun c2=>gjs (K:=cB _ _ _ _) (km ?_ (km ?_ (pS ?_)))) (fun c2=>ch (fun c3=>gjs (K:=cB _ _ _ _) (km ?_ (km ?_ (pS ?_)))) (fun c3=>ch (fun c4=>gjs (K:=cB _ _ _ _) (km ?_ (km ?_ (pS ?_)))) (fun c4=>ch (fun c5=>gjs (K:=cB _ _ _ _) (km ?_ (km ?_ (pS ?_)))) (fun c5=>ch (fun c6=>gjs (K:=dh _ _ _ _) (km ?_ (abn ?_ (pS ?_)))) (fun c6=>ch (fun c7=>gjs (K:=dh _ _ _ _) (km ?_ (abn ?_ (pS ?_)))) (fun c7=>ch (fun c8=>gjs (K:=dh _ _ _ _) (km ?_ (abn ?_ (pS ?_)))) (fun c8=>ch (fun c9=>ch (fun a6=>gnd ?_ (ch (fun a4=>gjs (K:=fo _ _ _ _) (km ?_ (km ?_ (km ?_ (pS ?_))))) (fun a4=>gjs (K:=cF _ _ _ _) (km ?_ (km ?_ (pS ?_)))))) (fun a6=>gjs (K:=cF _ _ _ _) (km ?_ (km ?_ (pS ?_))))) (fun c9=>ch (fun a1=>ch (fun a8=>gnd ?_ (ch (fun a3=>gjs (K:=fo _ _ _ _) (km ?_ (km ?_ (km ?_ (pS ?_))))) (fun a3=>gjs (K:=cF _ _ _ _) (km ?_ (km ?_ (pS ?_)))))) (fun a8=>gjs (K:=cF _ _ _ _) (km ?_ (km ?_ (pS ?_))))) (fun a1=>ch (fun a5=>gjs (K:=jp _ _ _ _) (km ?_ (abn ?_ (pS ?_)))) (fun a5=>ch (fun b3=>ch (fun a2=>gnd ?_ (gnd ?_ (gnd ?_ (ch (fun b1=>gnd ?_ (gnd ?_ (ch (fun a7=>?_) (fun a7=>?_)))) (fun b1=>ch (fun b4=>?_) (fun b4=>?_)))))) (fun a2=>ch (fun b0=>?_) (fun b0=>?_))) (fun b3=>gnd ?_ (ch (fun b2=>?_) (fun b2=>?_)))))))))))))))) (fun V=>cu (.inr ⟨by decide,rfl,Y,amL hS hk⟩))))
 all_goals first
  | (refine ano _ _ _ _ _ k (O V) U hi ?_ hS ?_)
  | (refine anz _ _ _ _ _ k (O V) U hi ?_ hS ?_)
  | (refine ann _ _ _ _ _ k (O V) U hi ?_ hS)
  | (refine anl _ _ _ _ _ k (O V) U hi ?_ hS ?_)
  | (refine anm _ _ _ _ _ k (O V) U hi ?_ hS ?_)
  | (refine dsN (O V) U hi rfl rfl ?_ ?_)
  | skip
 all_goals clear e
 all_goals first
  | exact akX
  | (exact rfl)
  | (simp (maxDischargeDepth:=30) only [anL,anM,anK,C2,F0,Nat.reduceLeDiff,Nat.reduceLT,Nat.reduceSub,gU,pa,kf,sj,Wl,Rv,aed,KW,adG,alh,a0,di,aL,aJ,Nat.reduceAdd,v6,D2,ac,ct,co,cr,cq,dm,bN,cn,bJ,aC,bg,kK,bY,bf,aM,aG,am,cL,Y, *];done)
  | exact hS
  | exact Me hS
  | (intro J
     simp only[anL,anM,anK,C2,F0,Nat.reduceLeDiff,Nat.reduceLT,Nat.reduceSub,Nat.reduceAdd,aL,aJ] at J
     first
     | exact ji (ams hS J)
     | exact ji (anc hS J)
     | exact ji (alv hS J)
     | exact ji (aid hS J)
     | exact ji (akK hS J)
     | exact ji (akS hS J)
     | exact ji (akB hS J)
     | exact absurd rfl J)
  | exact ji (akK hS (D1.1 (by assumption)))
  | exact ji (akS hS (D1.1 (by assumption)))
  | exact ji (akB hS (D1.1 (by assumption)))
  | exact ji (Me hS)
@[irreducible] def dC(p:b8)(q:D):b8:=sub (gS (122) p [q]).pay 0 13
theorem qt(p q:b8)(h:(be (gd p 0) (gd p 1)&&(leI 0 (gd q 0).int&&leI (gd q 0).int 100))=true):GG (fun c l=>c=1/\l=sub l 0 13/\(be (gd l 1) (gd l 2)=true/\SR 120 (sub l 4 9))) (gS (122) p q):=by
 simp only[a9] at h;obtain⟨h,q0,q1⟩:=h;have q0:0<=(gd q 0).int:=j9 q0;have q1:(gd q 0).int<=100:=j9 q1;have hw:w64 ((gd q 0).int+1)=(gd q 0).int+1:=br (by omega) (by omega);refine gnd h (gjn (K:=sL 122 p q) (fun l=>be (gd l 5) (gd l 6)=true/\ajP (gd l 3)/\gd l 1=gd q 0) (ch (fun _=>cu ⟨rfl,kf h,.inr rfl,rfl⟩) (fun _=>cu ⟨rfl,kf h,.inl rfl,rfl⟩)) ?_);rintro l ⟨h1,O,Y⟩;have hB:be (gd (aa (sub l 5 3) (.i 4)) 1) (gd (aa (sub l 5 3) (.i 4)) 2)=true:=gU h1;have J:be (gd (ae (sub (aa (sub l 5 3) (.i 4)) 1 3) (.i 3)) 1) (gd (ae (sub (aa (sub l 5 3) (.i 4)) 1 3) (.i 3)) 2)=true:=kf hB;have hn:inB (gd (aa (sub l 5 3) (.i 4)) 4).int 0 3=true:=by obtain⟨b1,V⟩:=DP (q:=.i 4) h1;rw[aE] at V;simp only[inB,a9,f7];omega
 have hS:=alH hn O;have a2:gd (Wx (gd (aa (sub l 5 3) (.i 4)) 4) (gd l 3)) 3=.l []:=by rw[aaw hn O];rfl
 have a1:leI ((gd l 3).rows.length:Int) 1000=true:=by rcases O with e | e <;> rw[e] <;> rfl
 have Z:∀X:b8,SR 0 X->gd X 3=.l []->SR 0 [gd X 0,gd X 1,gd X 2,.l [],gd X 4,gd X 5,gd X 6,gd X 7,gd X 8]:=fun X h e=>by rw[<- e];exact h
 have Z:=Z _ hS a2;have a0:=hS.2;refine gnd rfl (gnd h1 (gnd a1 (gnd hB (gjn (K:=sK 122 p q) (fun m=>be (gd m 7) (gd m 8)=true/\gd m 1=gd q 0/\SR 0 (sub m 19 9)) (ch (fun _=>gnd J (ch (fun _=>cu ⟨rfl,KW J,Y,Z⟩) (fun hk=>cu ⟨rfl,KW J,Y,(cQ _).1 (anw hk),a0⟩))) (fun _=>cu ⟨rfl,J,Y,hS⟩)) ?_))));rintro m ⟨U,g2,g3⟩;have hb:(gd (aa (sub m 7 3) (.i (w64 ((gd m 1).int+1)))) 4).int<=120:=by obtain⟨b1,V⟩:=DP (q:=.i (w64 ((gd m 1).int+1))) U;rw[g2,hw,aE] at V;rw[g2,hw];omega
 refine gnd rfl (gnd U (git (K:=lF 122 p q) (c:=2) (fun l=>be (gd l 9) (gd l 10)=true/\SR 120 (sub l 21 9)) (Cu p q _ (aX _) (gU U) rfl hb g3) ?_));rintro l ⟨k1,k2⟩;exact cu ⟨rfl,aX _,k1,k2⟩
theorem FN{p:b8}{q:D}(h:(be (gd p 0) (gd p 1)&&(leI 0 q.int&&leI q.int 100))=true):be (gd (dC p q) 1) (gd (dC p q) 2)=true/\SR 120 (sub (dC p q) 4 9):=by unfold dC;exact (io (qt p [q] h)).2
theorem Gy(N:Nat)(p q:b8):gS N p q=gS N p [gd q 0]:=by kernel_rfl
def uV:Ent:=(133,e2 (.tup [.agg d8]) ri fun p q=>(⟨.tup [.agg [.any],.agg d8,.agg d7],dC p (gd q 0)⟩,be (gd p 0) (gd p 1)&&(leI 0 (gd q 0).int&&leI (gd q 0).int 100)))
theorem DK:aw f4 uV:=bj fun p q h=>gu (N:=122) (ks:=eJ) (key:=bo) (ap (fC ⟨vP,fC ⟨oq,fC ⟨NA,fC ⟨AO,fC ⟨uU,fC ⟨iN,fC ⟨rZ,fC ⟨uW,fC ⟨CZ,fC ⟨oZ,fC ⟨qI,fC ⟨pZ,fC ⟨Ju,fC ⟨uQ,fC ⟨AT,fC ⟨Aa,fN⟩⟩⟩⟩⟩⟩⟩⟩⟩⟩⟩⟩⟩⟩⟩⟩)) (cN Tryz.func133) Tryz.func133 fun hw J=>by rw[Ee];exact congrArg (fun x=>some (bo,x)) (((Gy _ p q).trans (io (qt p [gd q 0] h)).1).trans (by unfold dC;exact rfl))
abbrev pY:=find [XB,PZ,uV]
abbrev qj:=[0,2]
theorem yD(N:Nat)(p:b8):aZ f4 pY N qj Tryz.f35 (.one (.agg zE)) [⟨sd (.sl 5),p⟩]=some (bo,
 nd (leI ((gd p 0).rows.length:Int) 1048576) (nd (leI ((gd p 0).rows.length:Int) 1048576&&(leI 0 24&&leI 24 100)) (nd (be (gd (gM (gd p 0)) 0) (gd (gM (gd p 0)) 1)&&(leI 0 (gd (fA (gd p 0) (.i 24)) 0).int&&leI (gd (fA (gd p 0) (.i 24)) 0).int 100)) (some (1,sub (dC (sub (gM (gd p 0)) 0 3) (gd (fA (gd p 0) (.i 24)) 0)) 4 9))))):=by kernel_rfl
def drS(z:D):b8:=sub (dC (sub (gM z) 0 3) (gd (fA z (.i 24)) 0)) 4 9
theorem amt{z:D}(h:leI (z.rows.length:Int) 1048576=true):(be (gd (gM z) 0) (gd (gM z) 1)&&(leI 0 (gd (fA z (.i 24)) 0).int&&leI (gd (fA z (.i 24)) 0).int 100))=true:=by have J:=Zk (p:=z) (q:=.i 24) (yU h rfl);rw[ack h,bb J.1,bb J.2];rfl
theorem amH{z:D}(h:leI (z.rows.length:Int) 1048576=true):SR 120 (drS z):=(FN (p:=sub (gM z) 0 3) (q:=gd (fA z (.i 24)) 0) (amt h)).2
def qx:Ent:=(35,e1 (sd (.sl 5)) fun p=>(⟨.one (.agg zE),sub (drS (gd p 0)) 0 9⟩,leI ((gd p 0).rows.length:Int) 1048576))
theorem yC:aw f4 qx:=ck fun p h=>aq (N:=0) (ks:=qj) (ap (fC ⟨YD,fC ⟨VM,fC ⟨DK,fN⟩⟩⟩)) Tryz.func35 fun hw=>by rw[yD];have h:leI ((gd p 0).rows.length:Int) 1048576=true:=h;refine congrArg (fun x=>some (bo,x)) ?_;rw[h,amt h];rfl
abbrev akj:=find []
theorem ael:av f4 akj:=ap (fN)
abbrev akP:=[0,1,4,8]
theorem aiG(N:Nat)(p q:b8):aZ f4 akj N akP Tryz.f36 ri [⟨sd (.sl 5),p⟩,⟨ri,q⟩]=some (bo,
 bif ltI (gd q 0).int ((gd p 0).rows.length:Int) then nd (al (gd q 0).int (gd p 0).rows.length) (oi (w64 (gd ((gd p 0).rows.getD (gd q 0).int.toNat []) 0).int))
 else nd (256 != 0) (oi ((w64 ((w64 ((gd q 0).int*7))+((gd p 0).rows.length:Int))).tmod 256))):=by kernel_rfl
def atF(z:D)(i:Int):Int:=bif ltI i (z.rows.length:Int) then w64 (gd (z.rows.getD i.toNat []) 0).int else (w64 ((w64 (i*7))+(z.rows.length:Int))).tmod 256
def Gu(z:D):Bool:=(List.range z.rows.length).all fun k=>inB (gd (z.rows.getD k []) 0).int 0 255
theorem ahL{z:D}(J:Gu z=true)(U:(z.rows.length:Int)<=1048576){i:Int}(O:0<=i)(h1:i<=1000):0<=atF z i/\atF z i<=255:=by
 unfold atF;cases h:ltI i (z.rows.length:Int) with
 | true =>have h:i<(z.rows.length:Int):=j9 h;have hk:=i6.1 J i.toNat (m0.2 (by omega));simp only[inB,a9,f7] at hk;rw[f8,br (by omega) (by omega)];exact hk
 | false =>rw[f5,br (x:=i*7) (by omega) (by omega),br (by omega) (by omega),H1 (by omega)];omega
def akM:Ent:=(36,e2 (sd (.sl 5)) ri fun p q=>(⟨ri,[.i (atF (gd p 0) (gd q 0).int)]⟩,leI 0 (gd q 0).int))
theorem aiJ:aw f4 akM:=bj fun p q h=>aq (N:=0) (ks:=akP) ael Tryz.func36 fun hw=>by
 rw[aiG];have h:0<=(gd q 0).int:=j9 h;refine congrArg (fun x=>some (bo,x)) ?_;show _=some (1,[D.i (atF (gd p 0) (gd q 0).int)]);unfold atF;cases J:ltI (gd q 0).int ((gd p 0).rows.length:Int) with
 | true =>have J:(gd q 0).int<((gd p 0).rows.length:Int):=j9 J;rw[f8,f8,show al (gd q 0).int (gd p 0).rows.length=true from by simp only[al,a9,f7];omega];rfl
 | false=>rfl
abbrev LW:=find [sZ,uq]
abbrev MB:=[0,1,4,7]
theorem Tk(N:Nat)(p q:b8):aZ f4 LW N MB Tryz.f46 (.one (.c (.d (.sl 93)))) [⟨sd (.sl 93),p⟩,⟨ri,q⟩]=some (bo,
 bif !(aR (gd p 0)) then some (1,[.l []])
 else nd (leI ((gd p 0).rows.length:Int) 1000000000) (some (1,[iX (gd p 0) (gd q 0).int true]))):=by kernel_rfl
def rc(z n:D):D:=bif aR z then iX z n.int true else .l []
def Nq:Ent:=(46,e2 (sd (.sl 93)) ri fun p q=>(⟨.one (.c (.d (.sl 93))),[rc (gd p 0) (gd q 0)]⟩,true))
theorem Td:aw f4 Nq:=bj fun p q h=>aq (N:=0) (ks:=MB) (ap (fC ⟨tc,fC ⟨tn,fN⟩⟩)) Tryz.func46 fun hw=>by
 rw[Tk];refine congrArg (fun x=>some (bo,x)) ?_;show _=some (1,[rc (gd p 0) (gd q 0)]);unfold rc;cases h1:aR (gd p 0) with
 | false=>rfl
 | true =>rw[show leI ((gd p 0).rows.length:Int) 1000000000=true from bb (by have:=((bU _).1 h1).2.2;omega)];rfl
abbrev afM:=find []
theorem acN:av f4 afM:=ap (fN)
abbrev afj:=[0,2]
theorem aeE(N:Nat)(p:b8):aZ f4 afM N afj Tryz.f34 rb [⟨sd (.sl 5),p⟩]=some (bo,
 ob (ltI 1048576 ((gd p 0).rows.length:Int))):=by kernel_rfl
def afJ:Ent:=(34,e1 (sd (.sl 5)) fun p=>(⟨rb,[.b (ltI 1048576 ((gd p 0).rows.length:Int))]⟩,true))
theorem afT:aw f4 afJ:=ck fun p h=>aq (N:=0) (ks:=afj) acN Tryz.func34 fun hw=>by rw[aeE]
abbrev tp:=find []
theorem Jz:av f4 tp:=ap (fN)
abbrev tK:=[0,1,4,5,10,14,25]
def ze(N:Nat)(p q:b8):b8->Out:=bc f4 tp N tK Tryz.f44 rb [⟨sd (.sl 93),p⟩,⟨sd (.sl 93),q⟩] 0
theorem Ou(N:Nat)(p q:b8)(O U Y V J:D):(ze N p q) [O,U,Y,V,J] =
 bif ltI J.int (O.rows.length:Int) then nd (al J.int O.rows.length) (nd (al J.int U.rows.length) (bif !(fO [si,si,si,si] (sub (O.rows.getD J.int.toNat []) 0 4) (sub (U.rows.getD J.int.toNat []) 0 4)) then ob false
 else nx [O,U,Y,V,.i (w64 (J.int+1))]))
 else ex 0 [O,U,Y,V,J]:=by kernel_rfl
theorem NG(N:Nat)(p q:b8):aZ f4 tp N tK Tryz.f44 rb [⟨sd (.sl 93),p⟩,⟨sd (.sl 93),q⟩]=some (bo,
 bif ((gd p 0).rows.length:Int) != ((gd q 0).rows.length:Int) then ob false
 else (let J:=ba (ze N p q) N [gd p 0,gd q 0,.i 0,.b (((gd p 0).rows.length:Int) != ((gd q 0).rows.length:Int)),.i 0]
  nd J.isSome (bif J.code==1 then some (1,J.pay)
  else nd (J.code==2) (ob true)))):=by kernel_rfl
def ip(x y:D):Bool:=xK (fun r s=>fO [si,si,si,si] (sub r 0 4) (sub s 0 4)) x y
def BX:Ent:=(44,e2 (sd (.sl 93)) (sd (.sl 93)) fun p q=>(⟨rb,[.b (ip (gd p 0) (gd q 0))]⟩,true))
theorem Nx:aw f4 BX:=bj fun p q h=>aq (N:=(gd p 0).rows.length+1) (ks:=tK) Jz Tryz.func44 fun hw=>by
 rw[NG];refine congrArg (fun x=>some (bo,x)) ?_;show _=some (1,[D.b (xK (fun r s=>fO [si,si,si,si] (sub r 0 4) (sub s 0 4)) (gd p 0) (gd q 0))]);by_cases J:(gd p 0).rows.length=(gd q 0).rows.length
 ·rw[adc (E:=fun r s=>fO [si,si,si,si] (sub r 0 4) (sub s 0 4)) (dY (hw ⟨sd (.sl 93),p⟩ (by simp))) J (fun k=>Ou _ p q _ _ _ _ (.i k)) (by omega)];rw[show (((gd p 0).rows.length:Int) != ((gd q 0).rows.length:Int))=false from by rw[J];exact I1 _];cases xK (fun r s=>fO [si,si,si,si] (sub r 0 4) (sub s 0 4)) (gd p 0) (gd q 0) <;> rfl
 ·rw[show (((gd p 0).rows.length:Int) != ((gd q 0).rows.length:Int))=true from D1.2 (by omega)];rw[show xK (fun r s=>fO [si,si,si,si] (sub r 0 4) (sub s 0 4)) (gd p 0) (gd q 0)=false from by simp[xK,J]];rfl
theorem sW{p:b8}(h:aY (sub p 0 9)=true):bE (sub p 0 9)=true:=by have s:=(cQ _).1 h;have V:(gd p 3).rows.length<=60:=((dq _).1 s.st).2.2;have U:(gd p 5).rows.length<=60:=(cD h).2.2.1;have J:(gd p 6).rows.length<=60:=pf s.w s.w1;have O:(gd p 7).rows.length<=60:=pf s.e s.e1;show (leI ((gd p 3).rows.length:Int) 100000000&&(leI ((gd p 5).rows.length:Int) 100000000&&(leI ((gd p 6).rows.length:Int) 100000000&&leI ((gd p 7).rows.length:Int) 100000000)))=true;rw[bb (by omega),bb (by omega),bb (by omega),bb (by omega)];rfl
theorem aaM{p:b8}{n u c:D}(J:c.int≠1):∀k,(bK p n u c k).2.2.int≠1
 | 0=>J
 | k+1=>by have O:=aaM (p:=p) (n:=n) (u:=u) J k;rw[bK];generalize bK p n u c k=A at *;generalize cd _ _ _ _ _=B;cases A.2.2.int==0 <;> cases (gd B 2).int==2 <;> cases (gd B 2).int==3 <;> first | exact O | exact fun h=>by cases h
section
variable {p:b8} (hs:aY (sub p 0 9)=true)
include hs
theorem abw{q:D}{r:b8}(J:inB q.int 1 1000000=true)(O:ar (sub r 0 2)=true):au (sub p 0 9) [q] (sub r 0 2)≠1:=by unfold au;rw[show sub (sub p 0 9) 0 9=sub p 0 9 from rfl,show sub (sub r 0 2) 0 2=sub r 0 2 from rfl,hs,O,show (gd [q] 0).int=q.int from rfl,J];cases ltI q.int (gd (sub p 0 9) 8).int <;> decide
theorem amI{q:D}{r:b8}(J:inB q.int 1 1000000=true)(O:ar (sub r 0 2)=true):(gd (thI p q r) 9).int≠1:=by
 have h:=abw hs J O;unfold thI;cases au (sub p 0 9) [q] (sub r 0 2) != 0 with
 | true =>rw[f8];unfold gt;rw[show ((D.i (au (sub p 0 9) [q] (sub r 0 2))).int==1)=false from v8.2 h];exact h
 | false =>cases q.int==(gd p 8).int && !gm (gd p 2) (sub r 0 2) <;> cases ca (gd p 2) (sub r 0 2) <;> cases (gd (bX (gd p 2) (sub r 0 2) (.b false)) 1).bool <;> exact fun h=>by cases h
theorem alb{q:D}{r:b8}(J:inB q.int 1 1000000=true)(O:ar (sub r 0 2)=true):(gd (Tb p q r) 10).int≠1:=by
 have h:=abw hs J O;unfold Tb;cases au (sub p 0 9) [q] (sub r 0 2) != 0 with
 | true =>rw[f8];unfold gt;rw[show ((D.i (au (sub p 0 9) [q] (sub r 0 2))).int==1)=false from v8.2 h];exact h
 | false =>
  cases ca (gd p 1) (sub r 0 2) with
  | false=>exact fun h=>by cases h
  | true =>
  cases (gd (sub (bX (gd p 2) (sub r 0 2) (.b true)) 0 2) 1).bool with
  | false=>exact fun h=>by cases h
  | true =>unfold ZY;simp only[l8,f5];generalize nv _ _ _=t;cases ltI 0 (t.rows.length:Int) <;> exact fun h=>by cases h
section
variable {n:D} (hn:inB n.int 1 60=true)
include hn
theorem amS{r:b8}(J:ar (sub r 0 2)=true):(gd (rdI p n r) 10).int≠1:=by
 unfold rdI;rw[hs,hn,J];cases aA (gd p 7) n.int <;> cases aA (aB (gd p 5)) n.int <;> cases aA (gd p 6) n.int <;> cases qa (sub p 0 9) (sub r 0 2) <;> first | exact fun h=>by cases h | skip
 simp only[l8,f5];unfold rdA OV;generalize um _ _ _ _=A;cases (gd A 2).int==2 <;> cases (gd A 2).int==3 <;> exact fun h=>by cases h
theorem alW(y:D):(gd (IF p n y) 9).int≠1:=by unfold IF;rw[hs,hn];cases aA (gd p 7) n.int <;> cases leI 0 (GD p n) <;> exact fun h=>by cases h
theorem amU{u:D}(J:aO u=true):(gd (prI p n (.l []) u) 9).int≠1:=by
 unfold prI;rw[hs,hn,J,show ltI 16 (((D.l []).rows.length:Nat):Int)=false from rfl,show dK (fun U=>iG (.l [[]]) (sub U 0 2)) (.l [])=false from rfl];cases aA (aB (gd p 5)) n.int with
 | true=>exact fun h=>by cases h
 | false =>
  simp only[l8,f5];have O:(ph p n (.l []) u).int≠1:=by
   have key:∀a b c d:Bool,(bif a then (2:Int) else bif b then 3 else bif c then 7 else bif d then 4 else 0)≠1:=by decide
   exact key _ _ _ _
  have h:=aaM (p:=p) (n:=n) (u:=u) O u.rows.length;unfold adI;generalize bK p n u (ph p n (.l []) u) u.rows.length=A at *;cases A.2.2.int==0 with
  | true=>cases ltI 60 (w64 (ii (sub p 0 9)+bi (gd p 3) u)) <;> exact fun h=>by cases h
  | false=>exact h
end
end
theorem Wg(z n:D):(ML z (.l [[.l [[n]]]])).rows=z.rows.filter fun r=>(gd r 0).int==n.int:=by
 show z.rows.filter (fun r => !((gd r 0).int != n.int))=_;refine D7 fun r _=>?_
 cases h:(gd r 0).int==n.int <;> simp only[bne,h] <;> rfl
theorem aiN{L l h:D}(h1:aR L=true)(J:aR l=true)(e:l.rows.filter (fun r=>(gd r 0).int==h.int)=L.rows.filter fun r=>(gd r 0).int==h.int):ip (iW l h) (rc L h)=true:=by
 unfold iW rc iX;rw[h1,J,f8,f8,sm L.rows (fun r=>((gd r 0).int==h.int)==true) (fun r=>sub r 0 4)];have e1:L.rows.filter (fun r=>((gd r 0).int==h.int)==true)=L.rows.filter fun r=>(gd r 0).int==h.int:=D7 fun r _=>by cases (gd r 0).int==h.int <;> rfl
 have e2:(ML (.l l.rows) (.l [[.l [[h]]]])).rows=L.rows.filter fun r=>(gd r 0).int==h.int:=(Wg _ _).trans e
 rw[e1];unfold ip xK;rw[e2,bp,m9,n8,s8,i6];intro k hk;have hk:=m0.1 hk;generalize L.rows.filter _=F at *;rw[show (F.map fun r=>sub r 0 4).getD k []=sub (F.getD k []) 0 4 from by rw[aU (by simpa using hk),G8,aU hk]];simp[fO];exact⟨rfl,rfl,rfl,rfl⟩
def su:Ent:=HT [1000101,1000108]
theorem AL:aw f4 su:=rF _
abbrev cm:=find [afJ,qx,akM,Dg,jf,vg,fZ,wg,gP,wN,gQ,Cg,jc,lS,Lz,Nq,BX,su]
theorem Av:av f4 cm:=ap (fC ⟨afT,fC ⟨yC,fC ⟨aiJ,fC ⟨NP,fC ⟨uW,fC ⟨CV,fC ⟨oZ,fC ⟨GB,fC ⟨qI,fC ⟨FX,fC ⟨pZ,fC ⟨KJ,fC ⟨uQ,fC ⟨lc,fC ⟨TL,fC ⟨Td,fC ⟨Nx,fC ⟨AL,fN⟩⟩⟩⟩⟩⟩⟩⟩⟩⟩⟩⟩⟩⟩⟩⟩⟩⟩)
abbrev bO:=[0,2,3,4,5,6,7,8,9,10,11,12,13,14,16,20,49,68,87,111,131,164,169,185,195]
def gk(N:Nat)(p:b8):b8->Out:=aeU f4 cm N bO (fY f4 Tryz.f6 rb) Tryz.f6 0 ([(0,sd (.sl 5)),(2,.one (.c (.kb false))),(16,rb),(3,.one (.c (.ptr 3 0))),(4,ri)],[(3,d0)])
def iC(N:Nat)(p:b8):b8->Out:=aeU f4 cm N bO (fY f4 Tryz.f6 rb) Tryz.f6 3 ([(0,sd (.sl 5)),(2,.one (.c (.kb false))),(16,rb),(3,.one (.c (.ptr 3 0))),(4,ri),(20,rb),(5,ri),(6,ri),(7,ri),(8,.one (.c (.ptr 8 0))),(9,.one (.c (.ptr 9 0))),(10,ri),(11,ri),(49,ri),(164,rb),(13,ri)],[(3,d0),(8,[.d si,.d si]),(9,d0)])
theorem Gw(N:Nat)(p:b8)(x0 x1 x2 x3 x4 x5 x6 x7 x8 x9 b6 a0 a7 b3 c1 J c0 c2 b2 Z V O b0 Y c3 a8 a2 b5 a5 b4 a3 U b1 a6 a1 a4:D):(iC N p) [x0,x1,x2,x3,x4,x5,x6,x7,x8,x9,b6,a0,a7,b3,c1,J,c0,c2,b2,Z,V,O,b0,Y,c3,a8,a2,b5,a5,b4,a3,U,b1,a6,a1,a4] =
 bif ltI J.int (O.rows.length:Int) then nd (al J.int O.rows.length) (bif (gd (O.rows.getD J.int.toNat []) 0).int==x6.int then nd (7 != 0) (bif (x7.int.tmod 7)==4 then nx [x0,x1,x2,x3,x4,x5,x6,x7,x8,x9,b6,a0,a7,b3,c1,.i (w64 (J.int+1)),c0,c2,b2,Z,V,O,b0,Y,c3,a8,a2,b5,a5,b4,a3,U,b1,a6,a1,a4]
 else bif !(ip (iW U (gd (O.rows.getD J.int.toNat []) 0)) (rc V (gd (O.rows.getD J.int.toNat []) 0))) then ob false
 else nx [x0,x1,x2,x3,x4,x5,x6,x7,x8,x9,b6,a0,a7,b3,c1,.i (w64 (J.int+1)),c0,c2,b2,Z,V,O,b0,Y,c3,a8,a2,b5,a5,b4,a3,U,b1,a6,a1,a4])
 else bif !(ip (iW U (gd (O.rows.getD J.int.toNat []) 0)) (rc V (gd (O.rows.getD J.int.toNat []) 0))) then ob false
 else nx [x0,x1,x2,x3,x4,x5,x6,x7,x8,x9,b6,a0,a7,b3,c1,.i (w64 (J.int+1)),c0,c2,b2,Z,V,O,b0,Y,c3,a8,a2,b5,a5,b4,a3,U,b1,a6,a1,a4])
 else ex 3 [x0,x1,x2,x3,x4,x5,x6,x7,x8,x9,b6,a0,a7,b3,c1,J,c0,c2,b2,Z,V,O,b0,Y,c3,a8,a2,b5,a5,b4,a3,U,b1,a6,a1,a4]:=by kernel_rfl
def stX(y:b8):Int:=atF (gd y 0) (w64 ((w64 (4*(gd y 4).int))+1))
def stN(y:b8):D:=.i (w64 (1+((atF (gd y 0) (w64 (4*(gd y 4).int))).tmod 9)))
def stL(y:b8):Int:=(atF (gd y 0) (w64 ((w64 (4*(gd y 4).int))+2))).tmod 30
def stA(y:b8):b8:= [.i (stL y),.i (w64 ((w64 ((stL y)+1))+((stX y).tmod 5)))]
def stW(y:b8):D:=.l [[.i (stL y),.i (stX y)],[.i (w64 ((stL y)+2)),.i (-1)]]
def stQ(y:b8):D:=.i (w64 ((gd y 13).int+1))
def stY(y:b8):D:=.b (((stX y).tmod 2)==0)
def stT(N:Nat)(p y A B:b8)(K:Nat):Out:=
 bif (gd A K).int != (gd B K).int then ob false
 else bif (gd A K).int==1 then ob false
 else nd (bE (sub A 0 9)) (bif !(aY (sub A 0 9)) then ob false
 else (let J:=ba (iC N p) N ([gd y 0,gd y 1,gd y 2,gd y 3,gd y 4,.b (ltI (gd y 4).int 14),stN y,.i (stX y),.i (stL y),.i 0,.i 0,gd A K,gd B K,.i ((stX y).tmod 7),.b (!(aY (sub A 0 9))),.i 0]++(sub y 5 9++(stA y++sub A 0 9)))
  nd J.isSome (bif J.code==1 then some (1,J.pay)
  else nd (J.code==5) (nx ([gd J.pay 0,gd J.pay 1,gd J.pay 2,gd J.pay 3,.i (w64 ((gd J.pay 4).int+1))]++sub J.pay 27 9)))))
def alo(N:Nat)(p y:b8):Out:=nd (bE (sub y 5 9)) (stT N p y (sub (rdI (sub y 5 9) (stN y) (stA y)) 0 11) (rdZ (sub y 5 9) (stN y) (stA y)) 10)
def amf(N:Nat)(p y:b8):Out:=nd (bE (sub y 5 9)) (stT N p y (sub (prI (sub y 5 9) (stN y) (.l []) (stW y)) 0 10) (prZ (sub y 5 9) (stN y) (.l []) (stW y)) 9)
def amQ(N:Nat)(p y:b8):Out:=nd (2 != 0) (nd (bE (sub y 5 9)) (nd (2 != 0) (stT N p y (sub (IF (sub y 5 9) (stN y) (stY y)) 0 10) (bw (sub y 5 9) (stN y) (stY y)) 9)))
def amj(N:Nat)(p y:b8):Out:=nd (bE (sub y 5 9)) (stT N p y (sub (Tb (sub y 5 9) (stQ y) (stA y)) 0 11) (eM (sub y 5 9) (stQ y) (stA y)) 10)
def amq(N:Nat)(p y:b8):Out:=nd (bE (sub y 5 9)) (stT N p y (sub (thI (sub y 5 9) (stQ y) (stA y)) 0 10) (thZ (sub y 5 9) (stQ y) (stA y)) 9)
def akW(N:Nat)(p y:b8):Out:=bif ((stX y).tmod 7)==4 then amQ N p y else bif ((stX y).tmod 7)==5 then amj N p y else amq N p y
def alD(N:Nat)(p y:b8):Out:=bif ((stX y).tmod 7)==2 then (bif ((stX y).tmod 7)==2 then amf N p y else akW N p y) else bif ((stX y).tmod 7)==3 then amf N p y else akW N p y
theorem rE(N:Nat)(p y:b8):gk N p (sub y 0 14) =
 bif ltI (gd y 4).int 14 then nd (leI 0 (w64 (4*(gd y 4).int))) (nd (9 != 0) (nd (leI 0 (w64 ((w64 (4*(gd y 4).int))+1))) (nd (leI 0 (w64 ((w64 (4*(gd y 4).int))+2))) (nd (30 != 0) (nd (5 != 0) (nd (7 != 0) (bif ((stX y).tmod 7)==0 then (bif ((stX y).tmod 7)==0 then alo N p y else alD N p y)
 else bif ((stX y).tmod 7)==1 then alo N p y else alD N p y)))))))
 else ex 0 (sub y 0 14):=by kernel_rfl
theorem acr{P:Program}{call:FuncId->List T->Option (T × Bool)}{N:Nat}{ks:List Nat}{fn:Func}{rs:Sh}{args:List T}{r:R}
  (O:fn.body=some (tR fn)) (J:(gY fn.ntmps (tR fn)&&Nat.ble args.length fn.ntmps&&Nat.ble fn.ntmps 1000000)=true)
  (h:fW P call N ks (fY P fn rs) (EK (tR fn)) (start args) (fun σ=>bV (fY P fn rs σ)) (fun _ _=>none) bV=r):aZ P call N ks fn rs args=r:=by
 unfold aZ;rw[O];dsimp only;rw[J,f8,NI];exact h
noncomputable def stS:List Code:=EK (tR Tryz.f6)
def alL:Dom:=([(0,sd (.sl 5)),(2,.one (.c (.kb false))),(16,rb),(3,.one (.c (.ptr 3 0))),(4,ri)],[(3,d0)])
def aiW(p:b8):b8:= [gd p 0,.i 0,.b (ltI 1048576 ((gd p 0).rows.length:Int)),.i 0,.i 0]++sub (drS (gd p 0)) 0 9
def anr:List Ce:= d0
def adv(p:b8):St:=⟨[],[(0,⟨sd (.sl 5),p⟩),(2,⟨.one (.c (.kb false)),[D0]⟩),(16,⟨rb,[.b (ltI 1048576 ((gd p 0).rows.length:Int))]⟩)],[]⟩
def aiv(p:b8):St:=⟨[],[(0,⟨sd (.sl 5),p⟩),(2,⟨.one (.c (.kb false)),[D0]⟩),(16,⟨rb,[.b (ltI 1048576 ((gd p 0).rows.length:Int))]⟩),(3,⟨.one (.c (.ptr 3 0)),[D0]⟩),(4,⟨ri,[.i 0]⟩)],[(3,anr,sub (drS (gd p 0)) 0 9)]⟩
theorem anB(N:Nat)(p:b8):vl f4 cm N bO (fY f4 Tryz.f6 rb) (stS.take 2) (start [⟨sd (.sl 5),p⟩])=some (true,adv p):=by kernel_rfl
theorem ani(N:Nat)(p:b8)(G:St->R):cE f4 cm N bO (fY f4 Tryz.f6 rb) ((stS.drop 2).headD .skip) (adv p) G (fun _ _=>none) bV=pG (ltI 1048576 ((gd p 0).rows.length:Int)) (some (bo,ob true)) (G (adv p)):=by kernel_rfl
theorem amJ:stS.drop 2=(stS.drop 2).headD .skip::stS.drop 3:=by kernel_rfl
theorem anA(N:Nat)(p:b8):vl f4 cm N bO (fY f4 Tryz.f6 rb) ((stS.drop 3).take 2) (adv p)=some (leI ((gd p 0).rows.length:Int) 1048576&&true,aiv p):=by kernel_rfl
theorem acF{P:Program}{call:FuncId->List T->Option (T × Bool)}{N:Nat}{ks:List Nat}{fin:St->Option b8}{id:Nat}{c:Code}{cs:List Code}{σ:St}{U:St->R}{O:Nat->St->R}{d:Dom}{q:b8}{Y:Out}
  (h1:(hZ ks).contains id=false) (h2:(σ.shed ks (.loop c)).r.isEmpty=true) (Z:(σ.shed ks (.loop c)).dom=d) (hq:(σ.shed ks (.loop c)).flat=q)
  (h3:fS c=true) (h4:(cW c).eraseDups = [id]) (V:(cW c).isEmpty=false)
  (hk:∀o:b8,fW P call N ks fin cs ((σ.shed ks (.loop c)).restrict (mkSt d o)) U O bV=some (bo,Y)) :
  fW P call N ks fin (.block id (.loop c)::cs) σ U O bV=some (bo,(let J:=ba (ut P call N ks fin c d) N q
   nd J.isSome (bif J.code==1 then some (1,J.pay) else nd (J.code==id+2) Y))):=by
 subst Z hq;unfold fW cE;rw[h1,f5];unfold cE;dsimp only;rw[h2,h3,h4];cases he:cW c with
 | nil=>rw[he] at V;cases V
 | cons x xs =>dsimp only[Bool.not_true,cond_false,cond_true];unfold wY;rw[n8,f8,hk];rfl
noncomputable def stC:Code:=match nH 0 (tR Tryz.f6) with
 | some b=>b
 | none=>.skip
theorem ane:stS.drop 5=.block 0 (.loop stC)::stS.drop 6:=by kernel_rfl
theorem amB(N:Nat)(p:b8):gk N p=ut f4 cm N bO (fY f4 Tryz.f6 rb) stC alL:=by kernel_rfl
theorem amN(N:Nat)(p:b8):((aiv p).shed bO (.loop stC)).flat=aiW p:=by kernel_rfl
theorem alR(N:Nat)(p:b8):((aiv p).shed bO (.loop stC)).dom=alL:=by kernel_rfl
theorem amo(N:Nat)(p o:b8)(J:St->R):fW f4 cm N bO (fY f4 Tryz.f6 rb) (stS.drop 6) (((aiv p).shed bO (.loop stC)).restrict (mkSt alL o)) J (fun _ _=>none) bV=some (bo,ob true):=by kernel_rfl
theorem anG(N:Nat)(p:b8)(O:St->R):fW f4 cm N bO (fY f4 Tryz.f6 rb) (stS.drop 5) (aiv p) O (fun _ _=>none) bV=some (bo,(let J:=ba (gk N p) N (aiW p)
  nd J.isSome (bif J.code==1 then some (1,J.pay)
  else nd (J.code==2) (ob true)))):=by
 rw[ane,amB];exact acF (by kernel_rfl) (by kernel_rfl) (alR N p) (amN N p) (by kernel_rfl) (by kernel_rfl) (by kernel_rfl) (fun o=>amo N p o O)
theorem anp(N:Nat)(p:b8)(G:St->R){o:Out}(h:fW f4 cm N bO (fY f4 Tryz.f6 rb) (stS.drop 3) (adv p) (fun σ=>bV (fY f4 Tryz.f6 rb σ)) (fun _ _=>none) bV=some (bo,o)) :
  fW f4 cm N bO (fY f4 Tryz.f6 rb) (stS.drop 2) (adv p) (fun σ=>bV (fY f4 Tryz.f6 rb σ)) (fun _ _=>none) bV=some (bo,bif ltI 1048576 ((gd p 0).rows.length:Int) then ob true else o):=by
 rw[amJ];show cE _ _ _ _ _ _ _ _ _ _=_;rw[ani,h];rfl
theorem DO(N:Nat)(p:b8):aZ f4 cm N bO Tryz.f6 rb [⟨sd (.sl 5),p⟩]=some (bo,
 bif true then (bif ltI 1048576 ((gd p 0).rows.length:Int) then ob true
 else bif leI ((gd p 0).rows.length:Int) 1048576&&true then (let J:=ba (gk N p) N (aiW p)
  nd J.isSome (bif J.code==1 then some (1,J.pay)
  else nd (J.code==2) (ob true))) else none) else none):=
 acr (by kernel_rfl) (by kernel_rfl) (DB _ _ _ _ _ 2 (anB N p) (anp N p (fun _=>none) (DB _ _ _ _ _ 2 (anA N p) (anG N p _))))
end Go.Proofs.YtpdfmcmnjikppaaGreat
end
