/-
 Texts of the proof,put together: part 5.
-/
import Derived.Test.YtpdfmcmnjikppaaGreatSS1
import Derived.Test.YtpdfmcmnjikppaaGreatSS2
import Derived.Test.YtpdfmcmnjikppaaGreatSS3
import Derived.Test.YtpdfmcmnjikppaaGreatSS4
import Derived.Test.YtpdfmcmnjikppaaGreatProg
import Derived.WalkKit
import Derived.ProofKit
import Derived.Shelf.RegionOpenPlain
import Derived.Deep.RegionLaw
import Derived.Deep.LoopGhost
import Derived.Lib.SliceRun
import Derived.Lib.AppendZerosOnto
import Derived.Lib.Hide
import Derived.Laws.IdiomCopy
import Derived.OwnWalk
import Derived.Shelf.Spec.SlicesInsert
import Derived.Shelf.Sort.Plain
import Derived.Shelf.Slices.In.SortNone
import Derived.Shelf.Slices.CompactI
import Derived.Shelf.Slices.Clone
import Derived.Shelf.Spec.SlicesGrow
set_option linter.unusedSimpArgs false
set_option linter.unusedVariables false
set_option linter.unusedSectionVars false
noncomputable section
namespace Go.Proofs.YtpdfmcmnjikppaaGreat
abbrev t8:=@List.mem_filter
abbrev t9:=@List.pairwise_iff_getElem
abbrev u9:=@List.map_append
abbrev y6:=@decide_eq_false_iff_not
abbrev A3:=@IntKind.wrap_i64
abbrev B5:=@List.filter_eq_self
abbrev B7:=@List.mem_of_mem_drop
abbrev C0:=@List.filter_append
abbrev C1:=@List.pairwise_append
abbrev C3:=@List.take_length
abbrev D5:=@Nat.not_lt_zero
abbrev D6:=@Bool.not_eq_true
abbrev D8:=@World.frozen?_setCells
abbrev D9:=@List.filter_eq_nil_iff
abbrev E2:=@World.cell?_setCells_out
abbrev E3:=@List.not_mem_nil
abbrev F4:=@List.take_append_drop
abbrev F6:=@List.any_eq_false
abbrev F7:=@World.cell?_alloc_past
abbrev F9:=@List.filter_map
abbrev G3:=@Nat.min_def
abbrev G5:=@Nat.lt_of_succ_lt
abbrev G6:=@List.take_add_one
abbrev G9:=@List.pairwise_cons
abbrev H8:=@List.mem_iff_getElem
abbrev H9:=@Int.lt_trichotomy
abbrev I8:=@List.cons_append
abbrev K7:=@Bool.or_false
abbrev L2:=@List.length_eq_zero_iff
abbrev L8:=@World.frozen?_alloc_at
abbrev M1:=@Array.getElem?_modify
abbrev M2:=@Array.getElem?_toList
abbrev M7:=@List.map_take
abbrev M8:=@List.map_drop
abbrev N0:=@Nat.sub_mul
abbrev N1:=@World.cell?_alloc_at
abbrev N5:=@List.filter_nil
end Go.Proofs.YtpdfmcmnjikppaaGreat
namespace Go.Proofs.YtpdfmcmnjikppaaGreat
set_option maxRecDepth 4096
abbrev xc:=find [fQ]
abbrev vI:=[0,2,3,4,5,6,7,8,29]
def iI(N:Nat)(p:b8):b8->Out:=bc f4 xc N vI Tryz.f150 rb [⟨sd (.sl 41),p⟩] 0
theorem tC(N:Nat)(p:b8)(U Y O V J:D):(iI N p) [U,Y,O,V,J] =
 bif ltI J.int V.int then nd (al J.int O.rows.length) (bif !(ar (sub (O.rows.getD J.int.toNat []) 0 2)) then ob false
 else bif ltI 0 J.int then nd (al (w64 (J.int - 1)) U.rows.length) (bif ltI (O.rows.getD J.int.toNat [] 0).int (U.rows.getD (w64 (J.int - 1)).toNat [] 1).int then ob false
 else nx [U,Y,O,V,.i (w64 (J.int+1))])
 else nx [U,Y,O,V,.i (w64 (J.int+1))])
 else ex 0 [U,Y,O,V,J]:=by kernel_rfl
theorem Ph(N:Nat)(p:b8):aZ f4 xc N vI Tryz.f150 rb [⟨sd (.sl 41),p⟩]=some (bo,
 (let J:=ba (iI N p) N [p 0,.i 0,p 0,.i (p 0:Int),.i 0]
  nd J.isSome (bif J.code==1 then some (1,J.pay)
  else nd (J.code==2) (ob (leI (J.pay 0) 16))))):=by kernel_rfl
def fH(z:D):Nat->Bool
 | 0=>ar (sub (z.rows.getD 0 []) 0 2)
 | k+1=>ar (sub (z.rows.getD (k+1) []) 0 2) && !ltI (z.rows.getD (k+1) [] 0).int (z.rows.getD k [] 1).int
def aV(z:D):Bool:=(List.range z.rows.length).all (fH z)&&leI z 16
def xF:Ent:=(150,e1 (sd (.sl 41)) fun p=>(⟨rb,[.b (aV (p 0))]⟩,true))
theorem yY:aw f4 xF:=ck fun p h=>aq (N:=(p 0).rows.length+1) (ks:=vI) (ap (fC ⟨eV,fN⟩)) Tryz.func150 fun hw=>by
 rw[Ph];have J:=dY (hw ⟨sd (.sl 41),p⟩ (by simp));have e:=cU (L:=iI ((p 0).rows.length+1) p) (fun k => [p 0,.i 0,p 0,.i (p 0:Int),.i (k:Int)]) (p 0).rows.length (fH (p 0)) [.b false] 0 (fun k hk=>?_) ?_ (N:=((p 0).rows.length+1)) (by omega)
 ·simp only[g9] at e;rw[e];unfold aV;cases (List.range (p 0).rows.length).all (fH (p 0)) <;> rfl
 ·cases k with
  | zero =>show iI _ p [_,_,_,_,.i ((0:Nat):Int)]=_;rw[tC];simp only[aE,cy hk,bn hk,aF hk J,g4,hD,Bo,fH];cases ar (sub (p 0 0) 0 2) <;> rfl
  | succ k =>show iI _ p [_,_,_,_,.i ((k+1:Nat):Int)]=_;rw[tC];simp only[aE,cy hk,bn hk,aF hk J,g4,hD,zX,mV (show k+1<=9223372036854775807 from by omega),bn (G5 hk),fH];cases ar (sub (p 0 (k+1)) 0 2) <;> cases ltI (p 0 (k+1) 0).int (p 0 k 1).int <;> rfl
 ·show iI _ p [_,_,_,.i (p 0:Int),.i (p 0:Int)]=_;rw[tC];simp only[aE,bF]
abbrev xa:=find [eI]
abbrev xP:=[0,2,3,6,10,36]
def iM(N:Nat)(p:b8):b8->Out:=bc f4 xa N xP Tryz.f185 rb [⟨sd (.sl 41),p⟩] 0
theorem sY(N:Nat)(p:b8)(O U V J:D):(iM N p) [O,U,V,J] =
 bif ltI J.int O then nd (al J.int O.rows.length) (bif !(ar (sub (O.rows.getD J.int.toNat []) 0 2)) then ob false
 else bif ltI 0 J.int then nd (al J.int O.rows.length) (nd (al (w64 (J.int - 1)) O.rows.length) (bif ltI (O.rows.getD J.int.toNat [] 0).int (O.rows.getD (w64 (J.int - 1)).toNat [] 1).int then ob false
 else nx [O,U,V,.i (w64 (J.int+1))]))
 else nx [O,U,V,.i (w64 (J.int+1))])
 else ex 0 [O,U,V,J]:=by kernel_rfl
theorem PE(N:Nat)(p:b8):aZ f4 xa N xP Tryz.f185 rb [⟨sd (.sl 41),p⟩]=some (bo,
 bif ltI 16 (p 0) then ob false
 else (let J:=ba (iM N p) N [p 0,.i 0,.b (ltI 16 (p 0)),.i 0]
  nd J.isSome (bif J.code==1 then some (1,J.pay)
  else nd (J.code==2) (ob true)))):=by kernel_rfl
def qf:Ent:=(185,e1 (sd (.sl 41)) fun p=>(⟨rb,[.b (aV (p 0))]⟩,true))
theorem rx:aw f4 qf:=ck fun p h=>aq (N:=(p 0).rows.length+1) (ks:=xP) (ap (fC ⟨dy,fN⟩)) Tryz.func185 fun hw=>by
 rw[PE];have J:=dY (hw ⟨sd (.sl 41),p⟩ (by simp));unfold aV;by_cases O:(p 0).rows.length<=16
 ·rw[gh (show (p 0:Int)<=16 from by omega),bb (show (p 0:Int)<=16 from by omega),f5];have e:=cU (L:=iM ((p 0).rows.length+1) p) (fun k => [p 0,.i 0,.b false,.i (k:Int)]) (p 0).rows.length (fH (p 0)) [.b false] 0 (fun k hk=>?_) ?_ (N:=((p 0).rows.length+1)) (by omega)
  ·simp only[g9] at e;rw[e];cases (List.range (p 0).rows.length).all (fH (p 0)) <;> rfl
  ·cases k with
   | zero =>show iM _ p [_,_,_,.i ((0:Nat):Int)]=_;rw[sY];simp only[aE,cy hk,bn hk,aF hk J,g4,hD,Bo,fH];cases ar (sub (p 0 0) 0 2) <;> rfl
   | succ k =>show iM _ p [_,_,_,.i ((k+1:Nat):Int)]=_;rw[sY];simp only[aE,cy hk,bn hk,aF hk J,g4,hD,zX,mV (show k+1<=9223372036854775807 from by omega),bn (G5 hk),fH];cases ar (sub (p 0 (k+1)) 0 2) <;> cases ltI (p 0 (k+1) 0).int (p 0 k 1).int <;> rfl
  ·show iM _ p [_,_,_,.i (p 0:Int)]=_;rw[sY];simp only[aE,bF]
 ·rw[gJ (show (16:Int)<(p 0:Int) from by omega),Er (show (16:Int)<(p 0:Int) from by omega),C9];rfl
abbrev zI:=find [CT,MF]
abbrev BD:=[0,2,3,4,5,6,7,8,36]
def jU(N:Nat)(p:b8):b8->Out:=bc f4 zI N BD Tryz.f127 rb [⟨sd (.sl 108),p⟩] 0
theorem xU(N:Nat)(p:b8)(U Y O V J:D):(jU N p) [U,Y,O,V,J] =
 bif ltI J.int V.int then nd (al J.int O.rows.length) (bif !(inB (O.rows.getD J.int.toNat [] 0).int (0) (999)) then ob false
 else bif !(inB (O.rows.getD J.int.toNat [] 1).int (0) (1000000000)) then ob false
 else bif ltI 0 J.int then nd (al (w64 (J.int - 1)) U.rows.length) (bif leI (O.rows.getD J.int.toNat [] 0).int (U.rows.getD (w64 (J.int - 1)).toNat [] 0).int then ob false
 else nx [U,Y,O,V,.i (w64 (J.int+1))])
 else nx [U,Y,O,V,.i (w64 (J.int+1))])
 else ex 0 [U,Y,O,V,J]:=by kernel_rfl
theorem Ue(N:Nat)(p:b8):aZ f4 zI N BD Tryz.f127 rb [⟨sd (.sl 108),p⟩]=some (bo,
 (let J:=ba (jU N p) N [p 0,.i 0,p 0,.i (p 0:Int),.i 0]
  nd J.isSome (bif J.code==1 then some (1,J.pay)
  else nd (J.code==2) (ob (leI (J.pay 0) 60))))):=by kernel_rfl
def storeAt(z:D):Nat->Bool
 | 0=>inB (z.rows.getD 0 [] 0).int 0 999&&inB (z.rows.getD 0 [] 1).int 0 1000000000
 | k+1=>inB (z.rows.getD (k+1) [] 0).int 0 999&&(inB (z.rows.getD (k+1) [] 1).int 0 1000000000 && !leI (z.rows.getD (k+1) [] 0).int (z.rows.getD k [] 0).int)
def aN(z:D):Bool:=(List.range z.rows.length).all (storeAt z)&&leI z 60
def pA:Ent:=(127,e1 (sd (.sl 108)) fun p=>(⟨rb,[.b (aN (p 0))]⟩,true))
theorem oc:aw f4 pA:=ck fun p h=>aq (N:=(p 0).rows.length+1) (ks:=BD) (ap (fC ⟨Ms,fC ⟨SH,fN⟩⟩)) Tryz.func127 fun hw=>by
 rw[Ue];have J:=dY (hw ⟨sd (.sl 108),p⟩ (by simp));have e:=cU (L:=jU ((p 0).rows.length+1) p) (fun k => [p 0,.i 0,p 0,.i (p 0:Int),.i (k:Int)]) (p 0).rows.length (storeAt (p 0)) [.b false] 0 (fun k hk=>?_) ?_ (N:=((p 0).rows.length+1)) (by omega)
 ·simp only[g9] at e;rw[e];unfold aN;cases (List.range (p 0).rows.length).all (storeAt (p 0)) <;> rfl
 ·cases k with
  | zero =>show jU _ p [_,_,_,_,.i ((0:Nat):Int)]=_;rw[xU];simp only[aE,cy hk,bn hk,aF hk J,g4,hD,Bo,storeAt];cases inB (p 0 0 0).int 0 999 <;> cases inB (p 0 0 1).int 0 1000000000 <;> rfl
  | succ k =>show jU _ p [_,_,_,_,.i ((k+1:Nat):Int)]=_;rw[xU];simp only[aE,cy hk,bn hk,aF hk J,g4,hD,zX,mV (show k+1<=9223372036854775807 from by omega),bn (G5 hk),storeAt];cases inB (p 0 (k+1) 0).int 0 999 <;> cases inB (p 0 (k+1) 1).int 0 1000000000 <;> cases leI (p 0 (k+1) 0).int (p 0 k 0).int <;> rfl
 ·show jU _ p [_,_,_,.i (p 0:Int),.i (p 0:Int)]=_;rw[xU];simp only[aE,bF]
abbrev zH:=find [yj,Mn]
abbrev As:=[0,2,3,6,10,46]
def jH(N:Nat)(p:b8):b8->Out:=bc f4 zH N As Tryz.f122 rb [⟨sd (.sl 108),p⟩] 0
theorem xA(N:Nat)(p:b8)(O U V J:D):(jH N p) [O,U,V,J] =
 bif ltI J.int O then nd (al J.int O.rows.length) (bif !(inB (O.rows.getD J.int.toNat [] 0).int (0) (999)) then ob false
 else nd (al J.int O.rows.length) (bif !(inB (O.rows.getD J.int.toNat [] 1).int (0) (1000000000)) then ob false
 else bif ltI 0 J.int then nd (al (w64 (J.int - 1)) O.rows.length) (nd (al J.int O.rows.length) (bif leI (O.rows.getD J.int.toNat [] 0).int (O.rows.getD (w64 (J.int - 1)).toNat [] 0).int then ob false
 else nx [O,U,V,.i (w64 (J.int+1))]))
 else nx [O,U,V,.i (w64 (J.int+1))]))
 else ex 0 [O,U,V,J]:=by kernel_rfl
theorem TB(N:Nat)(p:b8):aZ f4 zH N As Tryz.f122 rb [⟨sd (.sl 108),p⟩]=some (bo,
 bif ltI 60 (p 0) then ob false
 else (let J:=ba (jH N p) N [p 0,.i 0,.b (ltI 60 (p 0)),.i 0]
  nd J.isSome (bif J.code==1 then some (1,J.pay)
  else nd (J.code==2) (ob true)))):=by kernel_rfl
def jr:Ent:=(122,e1 (sd (.sl 108)) fun p=>(⟨rb,[.b (aN (p 0))]⟩,true))
theorem iB:aw f4 jr:=ck fun p h=>aq (N:=(p 0).rows.length+1) (ks:=As) (ap (fC ⟨HY,fC ⟨Sd,fN⟩⟩)) Tryz.func122 fun hw=>by
 rw[TB];have J:=dY (hw ⟨sd (.sl 108),p⟩ (by simp));unfold aN;by_cases O:(p 0).rows.length<=60
 ·rw[gh (show (p 0:Int)<=60 from by omega),bb (show (p 0:Int)<=60 from by omega),f5];have e:=cU (L:=jH ((p 0).rows.length+1) p) (fun k => [p 0,.i 0,.b false,.i (k:Int)]) (p 0).rows.length (storeAt (p 0)) [.b false] 0 (fun k hk=>?_) ?_ (N:=((p 0).rows.length+1)) (by omega)
  ·simp only[g9] at e;rw[e];cases (List.range (p 0).rows.length).all (storeAt (p 0)) <;> rfl
  ·cases k with
   | zero =>show jH _ p [_,_,_,.i ((0:Nat):Int)]=_;rw[xA];simp only[aE,cy hk,bn hk,aF hk J,g4,hD,Bo,storeAt];cases inB (p 0 0 0).int 0 999 <;> cases inB (p 0 0 1).int 0 1000000000 <;> rfl
   | succ k =>show jH _ p [_,_,_,.i ((k+1:Nat):Int)]=_;rw[xA];simp only[aE,cy hk,bn hk,aF hk J,g4,hD,zX,mV (show k+1<=9223372036854775807 from by omega),bn (G5 hk),storeAt];cases inB (p 0 (k+1) 0).int 0 999 <;> cases inB (p 0 (k+1) 1).int 0 1000000000 <;> cases leI (p 0 (k+1) 0).int (p 0 k 0).int <;> rfl
  ·show jH _ p [_,_,_,.i (p 0:Int)]=_;rw[xA];simp only[aE,bF]
 ·rw[gJ (show (60:Int)<(p 0:Int) from by omega),Er (show (60:Int)<(p 0:Int) from by omega),C9];rfl
abbrev uG:=find [uH]
abbrev uA:=[0,2,3,4,5,6,7,8,27]
def gW(N:Nat)(p:b8):b8->Out:=bc f4 uG N uA Tryz.f153 rb [⟨sd (.sl 3),p⟩] 0
theorem qV(N:Nat)(p:b8)(U Y O V J:D):(gW N p) [U,Y,O,V,J] =
 bif ltI J.int V.int then nd (al J.int O.rows.length) (bif !(inB (O.rows.getD J.int.toNat [] 0).int 1 60) then ob false
 else bif ltI 0 J.int then nd (al (w64 (J.int - 1)) U.rows.length) (bif leI (O.rows.getD J.int.toNat [] 0).int (U.rows.getD (w64 (J.int - 1)).toNat [] 0).int then ob false
 else nx [U,Y,O,V,.i (w64 (J.int+1))])
 else nx [U,Y,O,V,.i (w64 (J.int+1))])
 else ex 0 [U,Y,O,V,J]:=by kernel_rfl
theorem MS(N:Nat)(p:b8):aZ f4 uG N uA Tryz.f153 rb [⟨sd (.sl 3),p⟩]=some (bo,
 (let J:=ba (gW N p) N [p 0,.i 0,p 0,.i (p 0:Int),.i 0]
  nd J.isSome (bif J.code==1 then some (1,J.pay)
  else nd (J.code==2) (ob true)))):=by kernel_rfl
def ll(z:D):Nat->Bool
 | 0=>inB (z.rows.getD 0 [] 0).int 1 60
 | k+1=>inB (z.rows.getD (k+1) [] 0).int 1 60 && !leI (z.rows.getD (k+1) [] 0).int (z.rows.getD k [] 0).int
def fM(z:D):Bool:=(List.range z.rows.length).all (ll z)
def uw:Ent:=(153,e1 (sd (.sl 3)) fun p=>(⟨rb,[.b (fM (p 0))]⟩,true))
theorem vY:aw f4 uw:=ck fun p h=>aq (N:=(p 0).rows.length+1) (ks:=uA) (ap (fC ⟨oE,fN⟩)) Tryz.func153 fun hw=>by
 rw[MS];have J:=dY (hw ⟨sd (.sl 3),p⟩ (by simp));have e:=cU (L:=gW ((p 0).rows.length+1) p) (fun k => [p 0,.i 0,p 0,.i (p 0:Int),.i (k:Int)]) (p 0).rows.length (ll (p 0)) [.b false] 0 (fun k hk=>?_) ?_ (N:=((p 0).rows.length+1)) (by omega)
 ·simp only[g9] at e;rw[e];unfold fM;cases (List.range (p 0).rows.length).all (ll (p 0)) <;> rfl
 ·cases k with
  | zero =>show gW _ p [_,_,_,_,.i ((0:Nat):Int)]=_;rw[qV];simp only[aE,cy hk,bn hk,aF hk J,g4,hD,Bo,ll];cases inB (p 0 0 0).int 1 60 <;> rfl
  | succ k =>show gW _ p [_,_,_,_,.i ((k+1:Nat):Int)]=_;rw[qV];simp only[aE,cy hk,bn hk,aF hk J,g4,hD,zX,mV (show k+1<=9223372036854775807 from by omega),bn (G5 hk),ll];cases inB (p 0 (k+1) 0).int 1 60 <;> cases leI (p 0 (k+1) 0).int (p 0 k 0).int <;> rfl
 ·show gW _ p [_,_,_,.i (p 0:Int),.i (p 0:Int)]=_;rw[qV];simp only[aE,bF]
abbrev FA:=find [mM]
abbrev Fq:=[0,2,3,7,31]
def ly(N:Nat)(p:b8):b8->Out:=bc f4 FA N Fq Tryz.f199 rb [⟨sd (.sl 3),p⟩] 0
theorem Ay(N:Nat)(p:b8)(O U J:D):(ly N p) [O,U,J] =
 bif ltI J.int O then nd (al J.int O.rows.length) (bif !(inB (O.rows.getD J.int.toNat [] 0).int 1 60) then ob false
 else bif ltI 0 J.int then nd (al (w64 (J.int - 1)) O.rows.length) (nd (al J.int O.rows.length) (bif leI (O.rows.getD J.int.toNat [] 0).int (O.rows.getD (w64 (J.int - 1)).toNat [] 0).int then ob false
 else nx [O,U,.i (w64 (J.int+1))]))
 else nx [O,U,.i (w64 (J.int+1))])
 else ex 0 [O,U,J]:=by kernel_rfl
theorem Vv(N:Nat)(p:b8):aZ f4 FA N Fq Tryz.f199 rb [⟨sd (.sl 3),p⟩]=some (bo,
 (let J:=ba (ly N p) N [p 0,.i 0,.i 0]
  nd J.isSome (bif J.code==1 then some (1,J.pay)
  else nd (J.code==2) (ob true)))):=by kernel_rfl
def PU:Ent:=(199,e1 (sd (.sl 3)) fun p=>(⟨rb,[.b (fM (p 0))]⟩,true))
theorem Vl:aw f4 PU:=ck fun p h=>aq (N:=(p 0).rows.length+1) (ks:=Fq) (ap (fC ⟨jo,fN⟩)) Tryz.func199 fun hw=>by
 rw[Vv];have J:=dY (hw ⟨sd (.sl 3),p⟩ (by simp));have e:=cU (L:=ly ((p 0).rows.length+1) p) (fun k => [p 0,.i 0,.i (k:Int)]) (p 0).rows.length (ll (p 0)) [.b false] 0 (fun k hk=>?_) ?_ (N:=((p 0).rows.length+1)) (by omega)
 ·simp only[g9] at e;rw[e];unfold fM;cases (List.range (p 0).rows.length).all (ll (p 0)) <;> rfl
 ·cases k with
  | zero =>show ly _ p [_,_,.i ((0:Nat):Int)]=_;rw[Ay];simp only[aE,cy hk,bn hk,aF hk J,g4,hD,Bo,ll];cases inB (p 0 0 0).int 1 60 <;> rfl
  | succ k =>show ly _ p [_,_,.i ((k+1:Nat):Int)]=_;rw[Ay];simp only[aE,cy hk,bn hk,aF hk J,g4,hD,zX,mV (show k+1<=9223372036854775807 from by omega),bn (G5 hk),ll];cases inB (p 0 (k+1) 0).int 1 60 <;> cases leI (p 0 (k+1) 0).int (p 0 k 0).int <;> rfl
 ·show ly _ p [_,_,.i (p 0:Int)]=_;rw[Ay];simp only[aE,bF]
def adY(z:D):Nat->D
 | 0=>.i 0
 | k+1=>z.rows.getD k [] 1
abbrev BA:=find [uH,xz,fQ,ya,aeH]
abbrev Ar:=[0,2,3,4,5,6,7,8,34]
def mE(N:Nat)(p:b8):b8->Out:=bc f4 BA N Ar Tryz.f151 rb [⟨sd (.sl 93),p⟩] 0
theorem HS(N:Nat)(p:b8)(U Y O V J:D):(mE N p) [U,Y,O,V,J] =
 bif ltI J.int V.int then nd (al J.int O.rows.length) (bif !(inB (O.rows.getD J.int.toNat [] 0).int 1 60) then ob false
 else bif !(ar [(O.rows.getD J.int.toNat [] 1),(O.rows.getD J.int.toNat [] 2)]) then ob false
 else bif !(cO [(O.rows.getD J.int.toNat [] 3)]) then ob false
 else nd (leI 0 0&&leI 0 J.int&&leI J.int U) (bif dK (fun r=>qU (.l [[.l [sub (O.rows.getD J.int.toNat []) 0 4]]]) (sub r 0 4)) (.l (U.rows.take J.int.toNat)) then ob false
 else nx [U,Y,O,V,.i (w64 (J.int+1))]))
 else ex 0 [U,Y,O,V,J]:=by kernel_rfl
theorem TU(N:Nat)(p:b8):aZ f4 BA N Ar Tryz.f151 rb [⟨sd (.sl 93),p⟩]=some (bo,
 (let J:=ba (mE N p) N [p 0,.i 0,p 0,.i (p 0:Int),.i 0]
  nd J.isSome (bif J.code==1 then some (1,J.pay)
  else nd (J.code==2) (ob (leI (J.pay 0) 40))))):=by kernel_rfl
def kP(z:D)(k:Nat):Bool:=inB (z.rows.getD k [] 0).int 1 60&&(ar [z.rows.getD k [] 1,z.rows.getD k [] 2]&&(cO [z.rows.getD k [] 3] && !(List.range k).any fun j=>cA (z.rows.getD k []) (z.rows.getD j [])))
def aR(z:D):Bool:=(List.range z.rows.length).all (kP z)&&leI z 40
def lM:Ent:=(151,e1 (sd (.sl 93)) fun p=>(⟨rb,[.b (aR (p 0))]⟩,true))
theorem kG:aw f4 lM:=ck fun p h=>aq (N:=(p 0).rows.length+1) (ks:=Ar) (ap (fC ⟨oE,fC ⟨tD,fC ⟨eV,fC ⟨wO,fC ⟨ahZ,fN⟩⟩⟩⟩⟩)) Tryz.func151 fun hw=>by
 rw[TU];have J:=dY (hw ⟨sd (.sl 93),p⟩ (by simp));have e:=cU (L:=mE ((p 0).rows.length+1) p) (fun k => [p 0,.i 0,p 0,.i (p 0:Int),.i (k:Int)]) (p 0).rows.length (kP (p 0)) [.b false] 0 (fun k hk=>?_) ?_ (N:=(p 0).rows.length+1) (by omega)
 ·simp only[g9] at e;rw[e];unfold aR;cases (List.range (p 0).rows.length).all (kP (p 0)) <;> rfl
 ·show mE _ p [_,_,_,_,.i (k:Int)]=_;rw[HS];simp only[aE,cy hk,bn hk,aF hk J,g4,aiM (Nat.le_of_lt hk),acu (Nat.le_of_lt hk),kP];rw[show ((List.range k).any fun j=>qU (.l [[.l [sub (p 0 k) 0 4]]]) (sub (p 0 j) 0 4))=(List.range k).any fun j=>cA (p 0 k) (p 0 j) from rfl];cases inB (p 0 k 0).int 1 60 <;> cases ar [p 0 k 1,p 0 k 2] <;> cases cO [p 0 k 3] <;> cases (List.range k).any fun j=>cA (p 0 k) (p 0 j) <;> rfl
 ·show mE _ p [_,_,_,.i (p 0:Int),.i (p 0:Int)]=_;rw[HS];simp only[aE,bF]
abbrev tH:=find [mM,gq,eI,AK,vO]
abbrev tZ:=[0,2,3,4,7,11,38,41,52]
def mK(N:Nat)(p:b8):b8->Out:=bc f4 tH N tZ Tryz.f167 rb [⟨sd (.sl 93),p⟩] 0
def nc(N:Nat)(p:b8):b8->Out:=bc f4 tH N tZ Tryz.f167 rb [⟨sd (.sl 93),p⟩] 2
theorem HJ(N:Nat)(p:b8)(J V Y O:D):(mK N p) [J,V,Y,O] =
 bif ltI O.int J then nd (al O.int J.rows.length) (bif !(inB (J.rows.getD O.int.toNat [] 0).int 1 60) then ob false
 else nd (al O.int J.rows.length) (bif !(ar [(J.rows.getD O.int.toNat [] 1),(J.rows.getD O.int.toNat [] 2)]) then ob false
 else nd (al O.int J.rows.length) (bif !(lL [(J.rows.getD O.int.toNat [] 3)]) then ob false
 else (let U:=ba (nc N p) N [J,V,Y,O,.b (ltI O.int J),.b (!(lL [(J.rows.getD O.int.toNat [] 3)])),.i 0]
  nd U.isSome (bif U.code==1 then some (1,U.pay)
  else nd (U.code==4) (nx [U.pay 0,U.pay 1,U.pay 2,.i (w64 ((U.pay 3).int+1))]))))))
 else ex 0 [J,V,Y,O]:=by kernel_rfl
theorem Ht(N:Nat)(p:b8)(J Y Z U V x5 O:D):(nc N p) [J,Y,Z,U,V,x5,O] =
 bif ltI O.int U.int then nd (al U.int J.rows.length) (nd (al O.int J.rows.length) (bif kF (sub (J.rows.getD U.int.toNat []) 0 4) (sub (J.rows.getD O.int.toNat []) 0 4) then ob false
 else nx [J,Y,Z,U,V,x5,.i (w64 (O.int+1))]))
 else ex 2 [J,Y,Z,U,V,x5,O]:=by kernel_rfl
theorem TP(N:Nat)(p:b8):aZ f4 tH N tZ Tryz.f167 rb [⟨sd (.sl 93),p⟩]=some (bo,
 bif ltI 40 (p 0) then ob false
 else (let J:=ba (mK N p) N [p 0,.i 0,.b (ltI 40 (p 0)),.i 0]
  nd J.isSome (bif J.code==1 then some (1,J.pay)
  else nd (J.code==2) (ob true)))):=by kernel_rfl
def pW(z:D)(k:Nat):Bool:=inB (z.rows.getD k [] 0).int 1 60&&(ar [z.rows.getD k [] 1,z.rows.getD k [] 2]&&(cO [z.rows.getD k [] 3]&&(List.range k).all fun j => !kF (z.rows.getD k []) (z.rows.getD j [])))
theorem Yp(z:D)(n:Nat):(List.range n).all (pW z)=(List.range n).all (kP z):=by
 rw[p7];simp only[i6,m0];have J:∀ {k},(pW z k=true\/kP z k=true)->ar [z k 1,z k 2]=true:=fun h=>by
  rcases h with h | h
  ·simp only[pW,a9] at h;exact h.2.1
  ·simp only[kP,a9] at h;exact h.2.1
 constructor
 ·intro h k hk;have a:=h k hk;have U:=J (.inl a);simp only[pW,a9,i6,m0,m6] at a;simp only[kP,a9,m6,F6,m0,D6];refine⟨a.1,a.2.1,a.2.2.1,fun j O=>?_⟩;rw[<- EY U (J (.inl (h j (by omega))))];exact a.2.2.2 j O
 ·intro h k hk;have a:=h k hk;have U:=J (.inr a);simp only[kP,a9,m6,F6,m0,D6] at a;simp only[pW,a9,i6,m0,m6];refine⟨a.1,a.2.1,a.2.2.1,fun j O=>?_⟩;rw[EY U (J (.inr (h j (by omega))))];exact a.2.2.2 j O
def sZ:Ent:=(167,e1 (sd (.sl 93)) fun p=>(⟨rb,[.b (aR (p 0))]⟩,true))
theorem tc:aw f4 sZ:=ck fun p h=>aq (N:=(p 0).rows.length+1) (ks:=tZ) (ap (fC ⟨jo,fC ⟨fP,fC ⟨dy,fC ⟨Ej,fC ⟨zv,fN⟩⟩⟩⟩⟩)) Tryz.func167 fun hw=>by
 rw[TP];have O:=dY (hw ⟨sd (.sl 93),p⟩ (by simp));unfold aR;rw[<- Yp];by_cases U:(p 0).rows.length<=40
 ·rw[gh (show (p 0:Int)<=40 from by omega),bb (show (p 0:Int)<=40 from by omega),f5];have e:=cU (L:=mK ((p 0).rows.length+1) p) (fun k => [p 0,.i 0,.b false,.i (k:Int)]) (p 0).rows.length (pW (p 0)) [.b false] 0 (fun k hk=>?_) ?_ (N:=(p 0).rows.length+1) (by omega)
  ·simp only[g9] at e;rw[e];cases (List.range (p 0).rows.length).all (pW (p 0)) <;> rfl
  ·show mK _ p [_,_,_,.i (k:Int)]=_;rw[HJ];simp only[aE,fI hk,f8,bn hk,g4,pW,show lL [p 0 k 3]=cO [p 0 k 3] from rfl];cases inB (p 0 k 0).int 1 60
   ·rfl
   cases ar [p 0 k 1,p 0 k 2]
   ·rfl
   cases cO [p 0 k 3]
   ·rfl
   have e2:=cU (L:=nc ((p 0).rows.length+1) p) (fun j => [p 0,.i 0,.b false,.i (k:Int),.b true,.b false,.i (j:Int)]) k (fun j => !kF (p 0 k) (p 0 j)) [.b false] 2 (fun j J=>?_) ?_ (N:=(p 0).rows.length+1) (by omega)
   ·simp only[g9] at e2;simp only[l8,f5,e2,s8];cases (List.range k).all fun j => !kF (p 0 k) (p 0 j)
    ·rfl
    ·simp only[nd,f8,f5,w7,Out.code,Out.pay,w3,aL,aJ,Nat.reduceBEq,Nat.reduceAdd,aE,gX,so,bp,l8,w5,n8,aF hk O]
   ·show nc _ p [_,_,_,.i (k:Int),_,_,.i (j:Int)]=_;rw[Ht];simp only[aE,cy J,bn hk,bn (Nat.lt_trans J hk),aF J (show k<=9223372036854775807 from by omega),g4];rw[show kF (sub (p 0 k) 0 4) (sub (p 0 j) 0 4)=kF (p 0 k) (p 0 j) from rfl];cases kF (p 0 k) (p 0 j) <;> rfl
   ·show nc _ p [_,_,_,.i (k:Int),_,_,.i (k:Int)]=_;rw[Ht];simp only[aE,bF]
  ·show mK _ p [_,_,_,.i (p 0:Int)]=_;rw[HJ];simp only[aE,bF]
 ·rw[gJ (show (40:Int)<(p 0:Int) from by omega),Er (show (40:Int)<(p 0:Int) from by omega),C9];rfl
abbrev Bw:=find []
theorem OW:av f4 Bw:=ap (fN)
abbrev Af:=[0,1,3,4,5,7,10,11,12,13,25]
def mN(N:Nat)(p q:b8):b8->Out:=bc f4 Bw N Af Tryz.f75 rb [⟨sd (.sl 41),p⟩,⟨ag ay,q⟩] 0
theorem Hr(N:Nat)(p q:b8)(Z x1 x2 x3 x4 Y O V J x9 U:D):(mN N p q) [Z,x1,x2,x3,x4,Y,O,V,J,x9,U] =
 bif ltI J.int V.int then nd (al J.int O.rows.length) (bif leI (O.rows.getD J.int.toNat [] 0).int Y.int then bif ltI Y.int (O.rows.getD J.int.toNat [] 1).int then nx [Z,x1,x2,x3,x4,O.rows.getD J.int.toNat [] 1,O,V,.i (w64 (J.int+1)),x9,U]
 else nx [Z,x1,x2,x3,x4,Y,O,V,.i (w64 (J.int+1)),x9,U]
 else nx [Z,x1,x2,x3,x4,Y,O,V,.i (w64 (J.int+1)),x9,U])
 else ex 0 [Z,x1,x2,x3,x4,Y,O,V,J,x9,U]:=by kernel_rfl
theorem RH(N:Nat)(p q:b8):aZ f4 Bw N Af Tryz.f75 rb [⟨sd (.sl 41),p⟩,⟨ag ay,q⟩]=some (bo,
 (let J:=ba (mN N p q) N [p 0,q 0,q 1,.i 0,.i 0,q 0,p 0,.i (p 0:Int),.i 0,q 0,q 1]
  nd J.isSome (nd (J.code==2) (ob (leI (J.pay 10).int (J.pay 5).int))))):=by kernel_rfl
def cH(z:D)(a:D):Nat->D
 | 0=>a
 | k+1=>bif leI (z.rows.getD k [] 0).int (cH z a k).int&&ltI (cH z a k).int (z.rows.getD k [] 1).int then z.rows.getD k [] 1 else cH z a k
def ca(z:D)(q:b8):Bool:=leI (q 1).int (cH z (q 0) z.rows.length).int
theorem bM{L:b8->Out}(st:Nat->b8)(n:Nat)(j:Nat)(h1:∀k,k<n->L (st k)=some (0,st (k+1)))(J:L (st n)=some (j+2,st n)){N:Nat}(hN:n<N) :
  ba L N (st 0)=some (j+2,st n):=by
 have e:=cU (L:=L) st n (fun _=>true) [] j (fun k hk=>h1 k hk) J hN;rw[e,show (List.range n).all (fun _=>true)=true from by simp];rfl
def jn:Ent:=(75,e2 (sd (.sl 41)) (ag ay) fun p q=>(⟨rb,[.b (ca (p 0) q)]⟩,true))
theorem iH:aw f4 jn:=bj fun p q h=>aq (N:=(p 0).rows.length+1) (ks:=Af) OW Tryz.func75 fun hw=>by
 rw[RH];have J:=dY (hw ⟨sd (.sl 41),p⟩ (by simp));have e:=bM (L:=mN ((p 0).rows.length+1) p q) (fun k => [p 0,q 0,q 1,.i 0,.i 0,cH (p 0) (q 0) k,p 0,.i (p 0:Int),.i (k:Int),q 0,q 1]) (p 0).rows.length 0 (fun k hk=>?_) ?_ (N:=(p 0).rows.length+1) (by omega)
 ·simp only[g9] at e;rw[show cH (p 0) (q 0) 0=q 0 from rfl] at e;rw[e];rfl
 ·show mN _ p q [_,_,_,_,_,_,_,_,.i (k:Int),_,_]=_;rw[Hr];simp only[aE,cy hk,bn hk,aF hk J,g4,cH];cases leI (p 0 k 0).int (cH (p 0) (q 0) k).int <;> cases ltI (cH (p 0) (q 0) k).int (p 0 k 1).int <;> rfl
 ·show mN _ p q [_,_,_,_,_,_,_,.i (p 0:Int),.i (p 0:Int),_,_]=_;rw[Hr];simp only[aE,bF]
abbrev rq:=find [qf,eI]
abbrev rB:=[0,1,3,4,5,6,14,20,38]
def iw(N:Nat)(p q:b8):b8->Out:=bc f4 rq N rB Tryz.f62 rb [⟨sd (.sl 41),p⟩,⟨ag ay,q⟩] 0
theorem vB(N:Nat)(p q:b8)(J Z x2 x3 V x5 U O Y x9:D):(iw N p q) [J,Z,x2,x3,V,x5,U,O,Y,x9] =
 bif ltI O.int J then nd (al O.int J.rows.length) (bif leI (J.rows.getD O.int.toNat [] 0).int U.int then nd (al O.int J.rows.length) (bif ltI U.int (J.rows.getD O.int.toNat [] 1).int then nd (al O.int J.rows.length) (nx [J,Z,x2,x3,V,x5,J.rows.getD O.int.toNat [] 1,.i (w64 (O.int+1)),Y,x9])
 else nx [J,Z,x2,x3,V,x5,U,.i (w64 (O.int+1)),Y,x9])
 else nx [J,Z,x2,x3,V,x5,U,.i (w64 (O.int+1)),Y,x9])
 else ex 0 [J,Z,x2,x3,V,x5,U,O,Y,x9]:=by kernel_rfl
theorem Jb(N:Nat)(p q:b8):aZ f4 rq N rB Tryz.f62 rb [⟨sd (.sl 41),p⟩,⟨ag ay,q⟩]=some (bo,
 bif !(aV (p 0)) then ob false
 else bif !(ar (sub q 0 2)) then ob false
 else (let J:=ba (iw N p q) N [p 0,q 0,q 1,.i 0,.i 0,.b (!(ar (sub q 0 2))),q 0,.i 0,q 0,q 1]
  nd J.isSome (nd (J.code==2) (ob (leI (J.pay 9).int (J.pay 6).int))))):=by kernel_rfl
def ax(z:D)(q:b8):Bool:=aV z&&(ar q&&ca z q)
def fR:Ent:=(62,e2 (sd (.sl 41)) (ag ay) fun p q=>(⟨rb,[.b (ax (p 0) q)]⟩,true))
theorem fB:aw f4 fR:=bj fun p q h=>aq (N:=(p 0).rows.length+1) (ks:=rB) (ap (fC ⟨rx,fC ⟨dy,fN⟩⟩)) Tryz.func62 fun hw=>by
 rw[Jb];have J:=dY (hw ⟨sd (.sl 41),p⟩ (by simp));unfold ax;rw[show ar (sub q 0 2)=ar q from rfl];cases aV (p 0)
 ·rfl
 cases ar q
 ·rfl
 have e:=bM (L:=iw ((p 0).rows.length+1) p q) (fun k => [p 0,q 0,q 1,.i 0,.i 0,.b false,cH (p 0) (q 0) k,.i (k:Int),q 0,q 1]) (p 0).rows.length 0 (fun k hk=>?_) ?_ (N:=(p 0).rows.length+1) (by omega)
 ·simp only[g9] at e;rw[show cH (p 0) (q 0) 0=q 0 from rfl] at e;simp only[l8,f5,e];rfl
 ·show iw _ p q [_,_,_,_,_,_,_,.i (k:Int),_,_]=_;rw[vB];simp only[aE,cy hk,bn hk,aF hk J,g4,cH];cases leI (p 0 k 0).int (cH (p 0) (q 0) k).int <;> cases ltI (cH (p 0) (q 0) k).int (p 0 k 1).int <;> rfl
 ·show iw _ p q [_,_,_,_,_,_,_,.i (p 0:Int),_,_]=_;rw[vB];simp only[aE,bF]
def anI(a b c d:Int)(n:Nat):Bool:=(a==0)&&((b==0)&&((c==0)&&((d==0)&&((n:Int)==0))))
set_option maxHeartbeats 1000000
abbrev Cn:=find [lM,fQ,ya,aeM]
abbrev EA:=[0,1,2,3,5,6,7,8]
theorem KH(N:Nat)(p q r s:b8):aZ f4 Cn N EA Tryz.f50 rb [⟨sd (.sl 93),p⟩,⟨ri,q⟩,⟨ag ay,r⟩,⟨ri,s⟩]=some (bo,
 bif aR (p 0) then bif ar (sub r 0 2) then bif cO [s 0] then ob (dK (fun J=>oO (.l [[.l [[q 0]],.l [[s 0]],.l [sub r 0 2]]]) (sub J 0 4)) (p 0))
 else ob false
 else ob false
 else ob false):=by kernel_rfl
def bQ(z tx:D)(a:b8)(J:D):Bool:=aR z&&(ar a&&(cO [J]&&dK (fun r=>oO (.l [[.l [[tx]],.l [[J]],.l [sub a 0 2]]]) (sub r 0 4)) z))
def oA:Ent:=(50,e4 (sd (.sl 93)) ri (ag ay) ri fun p q r s=>(⟨rb,[.b (bQ (p 0) (q 0) r (s 0))]⟩,true))
theorem pH:aw f4 oA:=wV fun p q r s h=>aq (N:=0) (ks:=EA) (ap (fC ⟨kG,fC ⟨eV,fC ⟨wO,fC ⟨aet,fN⟩⟩⟩⟩)) Tryz.func50 fun hw=>by
 rw[KH];rw[show ar (sub r 0 2)=ar r from rfl];unfold bQ;cases aR (p 0) <;> try rfl
 cases ar r <;> try rfl
 cases cO [s 0] <;> rfl
abbrev vW:=find [gq,Om]
abbrev wn:=[0,1,2,3,6,8,9,13,40]
def kc(N:Nat)(p q r s:b8):b8->Out:=bc f4 vW N wn Tryz.f96 rb [⟨sd (.sl 93),p⟩,⟨ri,q⟩,⟨ag ay,r⟩,⟨ri,s⟩] 0
theorem Ez(N:Nat)(p q r s:b8)(J Y x2 x3 U x5 x6 O V Z:D):(kc N p q r s) [J,Y,x2,x3,U,x5,x6,O,V,Z] =
 bif ltI O.int J then nd (al O.int J.rows.length) (bif (J.rows.getD O.int.toNat [] 0).int==Y.int then nd (al O.int J.rows.length) (bif ff [V,Z] [(J.rows.getD O.int.toNat [] 1),(J.rows.getD O.int.toNat [] 2)] then nd (al O.int J.rows.length) (bif leI U.int (J.rows.getD O.int.toNat [] 3).int then ob true
 else nx [J,Y,x2,x3,U,x5,x6,.i (w64 (O.int+1)),V,Z])
 else nx [J,Y,x2,x3,U,x5,x6,.i (w64 (O.int+1)),V,Z])
 else nx [J,Y,x2,x3,U,x5,x6,.i (w64 (O.int+1)),V,Z])
 else ex 0 [J,Y,x2,x3,U,x5,x6,O,V,Z]:=by kernel_rfl
theorem Pd(N:Nat)(p q r s:b8):aZ f4 vW N wn Tryz.f96 rb [⟨sd (.sl 93),p⟩,⟨ri,q⟩,⟨ag ay,r⟩,⟨ri,s⟩]=some (bo,
 (let J:=ba (kc N p q r s) N [p 0,q 0,r 0,r 1,s 0,.i 0,.i 0,.i 0,r 0,r 1]
  nd J.isSome (bif J.code==1 then some (1,J.pay)
  else nd (J.code==2) (ob false)))):=by kernel_rfl
def ld(r:b8)(tx:D)(a:b8)(J:D):Bool:=((r 0).int==tx.int)&&(ff a [r 1,r 2]&&leI J.int (r 3).int)
def holds(z tx:D)(a:b8)(J:D):Bool:=(List.range z.rows.length).any fun k=>ld (z.rows.getD k []) tx a J
theorem Wk{z:D}(h:aR z=true){k:Nat}(hk:k<z.rows.length):ar [z.rows.getD k [] 1,z.rows.getD k [] 2]=true/\cO [z.rows.getD k [] 3]=true:=by simp only[aR,a9,i6,m0] at h;have:=h.1 k hk;simp only[kP,a9] at this;exact⟨this.2.1,this.2.2.1⟩
theorem QH{n:Nat}{C O:Nat->Bool}(h:∀k,k<n->C k=O k):(List.range n).any C=(List.range n).any O:=by rw[p7];simp only[B8,m0];exact⟨fun⟨k,hk,J⟩=>⟨k,hk,by rw[<- h k hk];exact J⟩,fun⟨k,hk,J⟩=>⟨k,hk,by rw[h k hk];exact J⟩⟩
theorem adr{n:Nat}{C O:Nat->Bool}(h:∀k,k<n->C k=O k):(List.range n).all C=(List.range n).all O:=by rw[p7];simp only[i6,m0];exact⟨fun J k hk=>by rw[<- h k hk];exact J k hk,fun J k hk=>by rw[h k hk];exact J k hk⟩
theorem FH{z tx:D}{a:b8}(hz:aR z=true)(U:ar a=true):holds z tx a (.i 2)=bQ z tx a (.i 2):=by
 unfold holds bQ;rw[hz,U,s8,s8,show cO [.i 2]=true from rfl,s8];unfold dK;refine QH fun k hk=>?_
 obtain⟨h1,J⟩:=Wk hz hk;show ld (z k) tx a (.i 2)=er (sub (z k) 0 4) [.l [[tx]]] [.l [[.i 2]]] [.l [sub a 0 2]];have e:er (sub (z k) 0 4) [.l [[tx]]] [.l [[.i 2]]] [.l [sub a 0 2]]=(bif (z k 0).int==tx.int then bif (z k 3).int==2 then bif leI (z k 1).int (a 0).int then leI (a 1).int (z k 2).int else false else bif (z k 3).int==2 then bif leI (z k 1).int (a 0).int then leI (a 1).int (z k 2).int else false else false else false):=rfl;rw[e];unfold ld ff;rw[show ar (sub a 0 2)=ar a from rfl,U,show ar (sub [z k 1,z k 2] 0 2)=ar [z k 1,z k 2] from rfl,h1];simp only[f8,aL,aJ,aE];have V:leI 2 (z k 3).int=((z k 3).int==2):=by
  have J:(bif (z k 3).int==1 then true else (z k 3).int==2)=true:=J;cases O:(z k 3).int==1
  ·rw[O,f5] at J;rw[J,eq_of_beq J];rfl
  ·rw[eq_of_beq O];rfl
 rw[V];cases (z k 0).int==tx.int <;> cases (z k 3).int==2 <;> cases leI (z k 1).int (a 0).int <;> cases leI (a 1).int (z k 2).int <;> rfl
def mT:Ent:=(96,e4 (sd (.sl 93)) ri (ag ay) ri fun p q r s=>(⟨rb,[.b (holds (p 0) (q 0) r (s 0))]⟩,true))
theorem mc:aw f4 mT:=wV fun p q r s h=>aq (N:=(p 0).rows.length+1) (ks:=wn) (ap (fC ⟨fP,fC ⟨Uc,fN⟩⟩)) Tryz.func96 fun hw=>by
 rw[Pd];have J:=dY (hw ⟨sd (.sl 93),p⟩ (by simp));have e:=UP (L:=kc ((p 0).rows.length+1) p q r s) (fun k => [p 0,q 0,r 0,r 1,s 0,.i 0,.i 0,.i (k:Int),r 0,r 1]) (p 0).rows.length (fun k=>ld (p 0 k) (q 0) r (s 0)) [.b true] 0 (fun k hk=>?_) ?_ (N:=(p 0).rows.length+1) (by omega)
 ·simp only[g9] at e;rw[e];unfold holds;cases (List.range (p 0).rows.length).any (fun k=>ld (p 0 k) (q 0) r (s 0)) <;> rfl
 ·show kc _ p q r s [_,_,_,_,_,_,_,.i (k:Int),_,_]=_;rw[Ez];simp only[aE,cy hk,bn hk,aF hk J,g4];rw[show ff [r 0,r 1] [p 0 k 1,p 0 k 2]=ff r [p 0 k 1,p 0 k 2] from rfl];unfold ld;cases (p 0 k 0).int==(q 0).int <;> cases ff r [p 0 k 1,p 0 k 2] <;> cases leI (s 0).int (p 0 k 3).int <;> rfl
 ·show kc _ p q r s [_,_,_,_,_,_,_,.i (p 0:Int),_,_]=_;rw[Ez];simp only[aE,bF]
abbrev LN:=find []
theorem Xt:av f4 LN:=ap (fN)
abbrev Kc:=[0,2,3,5,7,8,9,10]
def sx(N:Nat)(p:b8):b8->Out:=bc f4 LN N Kc Tryz.f117 (.one (.c (.own (0,0) true 3))) [⟨sd (.sl 75),p⟩] 0
theorem Qa(N:Nat)(p:b8)(Y Z V O U J:D):(sx N p) [Y,Z,V,O,U,J] =
 bif ltI J.int U.int then nd (al J.int O.rows.length) (nd (bq (V.rows ++ [[O.rows.getD J.int.toNat [] 0]])&&true) (nx [Y,Z,.l (V.rows ++ [[O.rows.getD J.int.toNat [] 0]]),O,U,.i (w64 (J.int+1))]))
 else ex 0 [Y,Z,V,O,U,J]:=by kernel_rfl
theorem Ze(N:Nat)(p:b8):aZ f4 LN N Kc Tryz.f117 (.one (.c (.own (0,0) true 3))) [⟨sd (.sl 75),p⟩]=some (bo,
 (let J:=ba (sx N p) N [p 0,.l [],.l [],p 0,.i (p 0:Int),.i 0]
  nd J.isSome (nd (J.code==2) (some (1,[J.pay 2]))))):=by kernel_rfl
def aB(z:D):D:=.l (z.rows.map fun r => [r 0])
def oL:Ent:=(117,e1 (sd (.sl 75)) fun p=>(⟨.one (.c (.own (0,0) true 3)),[aB (p 0)]⟩,leI (p 0) 1000000000))
theorem lP:aw f4 oL:=ck fun p h=>aq (N:=(gd p 0).rows.length+1) (ks:=Kc) Xt Tryz.func117 fun hw=>by
 rw[Ze];have h:leI ((gd p 0).rows.length:Int) 1000000000=true:=h;simp only[leI,f7] at h;have e:=bM (L:=sx ((gd p 0).rows.length+1) p) (fun k => [gd p 0,.l [],.l (((gd p 0).rows.take k).map fun r => [gd r 0]),gd p 0,.i ((gd p 0).rows.length:Int),.i (k:Int)]) (gd p 0).rows.length 0 (fun k hk=>?_) ?_ (N:=(gd p 0).rows.length+1) (by omega)
 ·simp only[g9,List.take_zero,H5,C3] at e;rw[e];rfl
 ·show sx _ p [_,_,.l (((gd p 0).rows.take k).map fun r => [gd r 0]),_,_,.i (k:Int)]=_;rw[Qa];have O:((gd p 0).rows.take (k+1)).map (fun r => [gd r 0])=((gd p 0).rows.take k).map (fun r => [gd r 0]) ++ [[gd ((gd p 0).rows.getD k []) 0]]:=by rw[List.take_succ_eq_append_getElem hk,u9,f9,g6 hk];rfl
  have J:bq (((gd p 0).rows.take k).map (fun r => [gd r 0]) ++ [[gd ((gd p 0).rows.getD k []) 0]])=true:=bL (by simp;omega);simp only[aE,bp,cy hk,bn hk,aF hk (show (gd p 0).rows.length<=9223372036854775807 from by omega),g4];rw[J,O];rfl
 ·show sx _ p [_,_,_,_,.i ((gd p 0).rows.length:Int),.i ((gd p 0).rows.length:Int)]=_;rw[Qa];simp only[aE,bF]
abbrev El:=find [Md,oA]
abbrev Ct:=[0,1,2,3,4]
theorem NO(N:Nat)(p q r:b8):aZ f4 El N Ct Tryz.f232 rb [⟨ag JR,p⟩,⟨.one (.c (.cptr [si,.sl 41,.sl 41,.sl 108,.sl 93,.sl 75,.sl 3,.sl 3,si] 0)),q⟩,⟨.one (.c (.cptr [si,.sl 70] 0)),r⟩]=some (bo,
 ob (!(bQ (((q 0).rows.getD 0 []) 4) (((r 0).rows.getD 0 []) 0) [p 0,.i (w64 ((p 0).int+1))] (.i 2)))):=by kernel_rfl
def nZ(p q r:b8):Bool:=
 !(bQ (((q 0).rows.getD 0 []) 4) (((r 0).rows.getD 0 []) 0) [p 0,.i (w64 ((p 0).int+1))] (.i 2))
def tu:Ent:=(232,e3 (ag JR) (.one (.c (.cptr [si,.sl 41,.sl 41,.sl 108,.sl 93,.sl 75,.sl 3,.sl 3,si] 0))) (.one (.c (.cptr [si,.sl 70] 0))) fun p q r=>(⟨rb,[.b (nZ p [q 0] [r 0])]⟩,true))
theorem xI:aw f4 tu:=em fun p q r h=>aq (N:=0) (ks:=Ct) (ap (fC ⟨BU,fC ⟨pH,fN⟩⟩)) Tryz.func232 fun hw=>by
 rw[NO]
 try simp only[dd,de,db]
 rfl
abbrev XN:=find [tu]
abbrev Zz:=[0,1,4,5,7,8,9,16]
def Cy(N:Nat)(p q:b8):b8->Out:=bc f4 XN N Zz Tryz.f252 ri [⟨sd (.sl 70),p⟩,⟨.one (.c (.fn 232 [.cptr [si,.sl 41,.sl 41,.sl 108,.sl 93,.sl 75,.sl 3,.sl 3,si] 0,.cptr [si,.sl 70] 0])),q⟩] 0
theorem abD(N:Nat)(p q:b8)(O U Y V J:D):(Cy N p q) [O,U,Y,V,J] =
 bif ltI J.int V.int then nd (al J.int O.rows.length) (bif nZ (sub (O.rows.getD J.int.toNat []) 0 2) [U.rows.getD 0 [] 0] [(U.rows.getD 0 []).tail 0] then some (1,[J])
 else nx [O,U,Y,V,.i (w64 (J.int+1))])
 else ex 0 [O,U,Y,V,J]:=by kernel_rfl
theorem agc(N:Nat)(p q:b8):aZ f4 XN N Zz Tryz.f252 ri [⟨sd (.sl 70),p⟩,⟨.one (.c (.fn 232 [.cptr [si,.sl 41,.sl 41,.sl 108,.sl 93,.sl 75,.sl 3,.sl 3,si] 0,.cptr [si,.sl 70] 0])),q⟩]=some (bo,
 (let J:=ba (Cy N p q) N [p 0,q 0,.i 0,.i (p 0:Int),.i 0]
  nd J.isSome (bif J.code==1 then some (1,J.pay)
  else nd (J.code==2) (oi (-1))))):=by kernel_rfl
def oS(c:D)(r:b8):Bool:=nZ r [c.rows.getD 0 [] 0] [(c.rows.getD 0 []).tail 0]
def agf:Ent:=(252,e2 (sd (.sl 70)) (.one (.c (.fn 232 [.cptr [si,.sl 41,.sl 41,.sl 108,.sl 93,.sl 75,.sl 3,.sl 3,si] 0,.cptr [si,.sl 70] 0]))) fun p q=>(⟨ri,[.i (ixF (fun k=>oS (q 0) (sub ((p 0).rows.getD k []) 0 2)) 0 (p 0).rows.length)]⟩,true))
theorem ahM:aw f4 agf:=bj fun p q h=>aq (N:=(p 0).rows.length+1) (ks:=Zz) (ap (fC ⟨xI,fN⟩)) Tryz.func252 fun hw=>by
 rw[agc];have U:=dY (hw ⟨sd (.sl 70),p⟩ (by simp));have e:=fK (L:=Cy ((p 0).rows.length+1) p q) (fun k => [p 0,q 0,.i 0,.i (p 0:Int),.i (k:Int)]) (p 0).rows.length (fun k=>oS (q 0) (sub (p 0 k) 0 2)) [p 0,q 0,.i 0,.i (p 0:Int),.i (p 0:Int)] (fun k hk=>?_) ?_ (p 0).rows.length 0 ((p 0).rows.length+1) (by omega) (by omega)
 ·simp only[g9] at e;rw[e];have J:=fx (fun k=>oS (q 0) (sub (p 0 k) 0 2)) (p 0).rows.length 0;cases O:decide (ixF (fun k=>oS (q 0) (sub (p 0 k) 0 2)) 0 (p 0).rows.length>=0)
  ·rw[J O];rfl
  ·rfl
 ·show Cy _ p q [_,_,_,_,.i (k:Int)]=_;rw[abD];simp only[aE,cy hk,bn hk,aF hk U,g4];unfold oS;cases nZ (sub (p 0 k) 0 2) [q 0 0 0] [(q 0 0).tail 0] <;> rfl
 ·show Cy _ p q [_,_,_,.i (p 0:Int),.i (p 0:Int)]=_;rw[abD];simp only[aE,bF]
abbrev aeo:=find [agf,tu]
abbrev aix:=[0,1,4]
theorem agl(N:Nat)(p q:b8):aZ f4 aeo N aix Tryz.f211 rb [⟨sd (.sl 70),p⟩,⟨.one (.c (.fn 232 [.cptr [si,.sl 41,.sl 41,.sl 108,.sl 93,.sl 75,.sl 3,.sl 3,si] 0,.cptr [si,.sl 70] 0])),q⟩]=some (bo,
 ob (leI 0 (ixF (fun k=>oS (.l [[((q 0).rows.getD 0 []) 0,((q 0).rows.getD 0 []).tail 0]]) (sub ((p 0).rows.getD k []) 0 2)) 0 (p 0).rows.length))):=by kernel_rfl
def afe:Ent:=(211,e2 (sd (.sl 70)) (.one (.c (.fn 232 [.cptr [si,.sl 41,.sl 41,.sl 108,.sl 93,.sl 75,.sl 3,.sl 3,si] 0,.cptr [si,.sl 70] 0]))) fun p q=>(⟨rb,[.b (dK (fun J=>oS (q 0) (sub J 0 2)) (p 0))]⟩,true))
theorem aey:aw f4 afe:=bj fun p q h=>aq (N:=0) (ks:=aix) (ap (fC ⟨ahM,fC ⟨xI,fN⟩⟩)) Tryz.func211 fun hw=>by rw[agl];refine congrArg (fun x=>some (bo,ob x)) ?_;exact (iD (fun k=>oS (q 0) (sub (p 0 k) 0 2)) (p 0).rows.length 0).trans (by simp only[i9];rfl)
abbrev Bf:=find [mX,afe,oL,uw]
abbrev Ao:=[0,1,2,4,6,7,8,9,21]
def mW(N:Nat)(p:b8):b8->Out:=bc f4 Bf N Ao Tryz.f152 rb [⟨ag aK,p⟩] 0
theorem Im(N:Nat)(p:b8)(x0 x1 x2 x3 x4 x5 x6 x7 x8 x9 a6 O U J a4 Z a3 a5 a1 V a2 a0 Y:D):(mW N p) [x0,x1,x2,x3,x4,x5,x6,x7,x8,x9,a6,O,U,J,a4,Z,a3,a5,a1,V,a2,a0,Y] =
 bif ltI J.int U.int then nd (al J.int O.rows.length) (bif !(aO (O.rows.getD J.int.toNat [] 1)) then ob false
 else bif dK (fun rr=>oS (.l [[.l [[a4,Z,a3,a5,a1,V,a2,a0,Y]],.l [sub (O.rows.getD J.int.toNat []) 0 2]]]) (sub rr 0 2)) (O.rows.getD J.int.toNat [] 1) then ob false
 else nx [x0,x1,x2,x3,x4,x5,x6,x7,x8,x9,a6,O,U,.i (w64 (J.int+1)),a4,Z,a3,a5,a1,V,a2,a0,Y])
 else ex 0 [x0,x1,x2,x3,x4,x5,x6,x7,x8,x9,a6,O,U,J,a4,Z,a3,a5,a1,V,a2,a0,Y]:=by kernel_rfl
theorem RN(N:Nat)(p:b8):aZ f4 Bf N Ao Tryz.f152 rb [⟨ag aK,p⟩]=some (bo,
 (let J:=ba (mW N p) N [p 0,p 1,p 2,p 3,p 4,p 5,p 6,p 7,p 8,.i 0,.i 0,p 5,.i (p 5:Int),.i 0,p 0,p 1,p 2,p 3,p 4,p 5,p 6,p 7,p 8]
  nd J.isSome (bif J.code==1 then some (1,J.pay)
  else nd (J.code==2) (nd (leI (J.pay 19) 1000000000) (ob (fM (aB (J.pay 19)))))))):=by kernel_rfl
def dX(w:b8):b8:= [w 0,.i (w64 ((w 0).int+1))]
def AF(p:b8)(k:Nat):Bool:=aO (((p 5).rows.getD k []) 1)&&(List.range (((p 5).rows.getD k []) 1).rows.length).all fun j=>bQ (p 4) (((p 5).rows.getD k []) 0) (dX ((((p 5).rows.getD k []) 1).rows.getD j [])) (.i 2)
def lZ(p:b8):Bool:=(List.range (p 5).rows.length).all (AF p)&&fM (aB (p 5))
def Ks:Ent:=(152,e1 (ag aK) fun p=>(⟨rb,[.b (lZ p)]⟩,leI (p 5) 1000000000))
theorem Sa:aw f4 Ks:=ck fun p h=>aq (N:=(p 5).rows.length+1) (ks:=Ao) (ap (fC ⟨lU,fC ⟨aey,fC ⟨lP,fC ⟨vY,fN⟩⟩⟩⟩)) Tryz.func152 fun hw=>by
 rw[RN];have h:leI (p 5) 1000000000=true:=h;have J:=h;simp only[leI,f7] at J;have e:=cU (L:=mW ((p 5).rows.length+1) p) (fun k => [p 0,p 1,p 2,p 3,p 4,p 5,p 6,p 7,p 8,.i 0,.i 0,p 5,.i (p 5:Int),.i (k:Int),p 0,p 1,p 2,p 3,p 4,p 5,p 6,p 7,p 8]) (p 5).rows.length (AF p) [.b false] 0 (fun k hk=>?_) ?_ (N:=(p 5).rows.length+1) (by omega)
 ·simp only[g9] at e;rw[e];unfold lZ;cases (List.range (p 5).rows.length).all (AF p)
  ·rfl
  ·simp only[nd,f8,f5,w7,Out.code,Out.pay,w3,aL,aJ,Nat.reduceBEq,Nat.reduceAdd,aE,gX,so,bp,l8,w5,n8,h];rfl
 ·show mW _ p [_,_,_,_,_,_,_,_,_,_,_,_,_,.i (k:Int),_,_,_,_,_,_,_,_,_]=_;rw[Im];simp only[aE,cy hk,bn hk,aF hk (show (p 5).rows.length<=9223372036854775807 from by omega),g4];have O:(!dK (fun r=>oS (.l [[.l [[p 0,p 1,p 2,p 3,p 4,p 5,p 6,p 7,p 8]],.l [sub (p 5 k) 0 2]]]) (sub r 0 2)) (p 5 k 1))=(List.range (p 5 k 1).rows.length).all fun j=>bQ (p 4) (p 5 k 0) (dX (((p 5).rows.getD k []) 1 j)) (.i 2):=by
   unfold dK;rw[<- abf];refine adr fun j _=>?_
   show (!(!bQ (p 4) (p 5 k 0) (dX (((p 5).rows.getD k []) 1 j)) (.i 2)))=_;rw[Bool.not_not]
  unfold AF;rw[<- O];cases aO (p 5 k 1) <;> cases dK (fun r=>oS (.l [[.l [[p 0,p 1,p 2,p 3,p 4,p 5,p 6,p 7,p 8]],.l [sub (p 5 k) 0 2]]]) (sub r 0 2)) (p 5 k 1) <;> rfl
 ·show mW _ p [_,_,_,_,_,_,_,_,_,_,_,_,.i (p 5:Int),.i (p 5:Int),_,_,_,_,_,_,_,_,_]=_;rw[Im];simp only[aE,bF]
abbrev mn:=find [mM,mB,xY,mT,lQ]
abbrev md:=[0,1,2,3,4,5,10,43,48,63,75]
def gj(N:Nat)(p:b8):b8->Out:=bc f4 mn N md Tryz.f200 rb [⟨ag aK,p⟩] 0
def fu(N:Nat)(p:b8):b8->Out:=bc f4 mn N md Tryz.f200 rb [⟨ag aK,p⟩] 2
theorem pw(N:Nat)(p:b8)(x0 x1 x2 x3 x4 x5 x6 x7 x8 x9 a2 O V a1 a5 Z a4 U a0 Y a3:D):(gj N p) [x0,x1,x2,x3,x4,x5,x6,x7,x8,x9,a2,O,V,a1,a5,Z,a4,U,a0,Y,a3] =
 bif ltI O.int U then nd (al O.int U.rows.length) (bif !(inB (U.rows.getD O.int.toNat [] 0).int 1 60) then ob false
 else bif ltI 0 O.int then nd (al (w64 (O.int - 1)) U.rows.length) (bif leI (U.rows.getD O.int.toNat [] 0).int (U.rows.getD (w64 (O.int - 1)).toNat [] 0).int then ob false
 else bif !(aO (U.rows.getD O.int.toNat [] 1)) then ob false
 else (let J:=ba (fu N p) N [x0,x1,x2,x3,x4,x5,x6,x7,x8,x9,a2,O,.b (ltI O.int U),.i 0,.b (!(aO (U.rows.getD O.int.toNat [] 1))),.i 0,V,a1,a5,Z,a4,U,a0,Y,a3,U.rows.getD O.int.toNat [] 0,U.rows.getD O.int.toNat [] 1]
  nd J.isSome (bif J.code==1 then some (1,J.pay)
  else nd (J.code==4) (bif aA (J.pay 22) (J.pay 25).int then ob false
  else bif aA (J.pay 23) (J.pay 25).int then ob false
  else nx [J.pay 0,J.pay 1,J.pay 2,J.pay 3,J.pay 4,J.pay 5,J.pay 6,J.pay 7,J.pay 8,J.pay 9,J.pay 10,.i (w64 ((J.pay 11).int+1)),J.pay 16,J.pay 17,J.pay 18,J.pay 19,J.pay 20,J.pay 21,J.pay 22,J.pay 23,J.pay 24]))))
 else bif !(aO (U.rows.getD O.int.toNat [] 1)) then ob false
 else (let J:=ba (fu N p) N [x0,x1,x2,x3,x4,x5,x6,x7,x8,x9,a2,O,.b (ltI O.int U),.i 0,.b (!(aO (U.rows.getD O.int.toNat [] 1))),.i 0,V,a1,a5,Z,a4,U,a0,Y,a3,U.rows.getD O.int.toNat [] 0,U.rows.getD O.int.toNat [] 1]
  nd J.isSome (bif J.code==1 then some (1,J.pay)
  else nd (J.code==4) (bif aA (J.pay 22) (J.pay 25).int then ob false
  else bif aA (J.pay 23) (J.pay 25).int then ob false
  else nx [J.pay 0,J.pay 1,J.pay 2,J.pay 3,J.pay 4,J.pay 5,J.pay 6,J.pay 7,J.pay 8,J.pay 9,J.pay 10,.i (w64 ((J.pay 11).int+1)),J.pay 16,J.pay 17,J.pay 18,J.pay 19,J.pay 20,J.pay 21,J.pay 22,J.pay 23,J.pay 24]))))
 else ex 0 [x0,x1,x2,x3,x4,x5,x6,x7,x8,x9,a2,O,V,a1,a5,Z,a4,U,a0,Y,a3]:=by kernel_rfl
theorem vu(N:Nat)(p:b8)(x0 x1 x2 x3 x4 x5 x6 x7 x8 x9 a6 a1 Z a5 a8 J a7 b0 a4 a0 V a3 a2 Y b1 U O:D):(fu N p) [x0,x1,x2,x3,x4,x5,x6,x7,x8,x9,a6,a1,Z,a5,a8,J,a7,b0,a4,a0,V,a3,a2,Y,b1,U,O] =
 bif ltI J.int O then nd (al J.int O.rows.length) (bif !(holds V U [(O.rows.getD J.int.toNat [] 0),.i (w64 ((O.rows.getD J.int.toNat [] 0).int+1))] (.i 2)) then ob false
 else nx [x0,x1,x2,x3,x4,x5,x6,x7,x8,x9,a6,a1,Z,a5,a8,.i (w64 (J.int+1)),a7,b0,a4,a0,V,a3,a2,Y,b1,U,O])
 else ex 2 [x0,x1,x2,x3,x4,x5,x6,x7,x8,x9,a6,a1,Z,a5,a8,J,a7,b0,a4,a0,V,a3,a2,Y,b1,U,O]:=by kernel_rfl
theorem IZ(N:Nat)(p:b8):aZ f4 mn N md Tryz.f200 rb [⟨ag aK,p⟩]=some (bo,
 (let J:=ba (gj N p) N [p 0,p 1,p 2,p 3,p 4,p 5,p 6,p 7,p 8,.i 0,.i 0,.i 0,p 0,p 1,p 2,p 3,p 4,p 5,p 6,p 7,p 8]
  nd J.isSome (bif J.code==1 then some (1,J.pay)
  else nd (J.code==2) (ob true)))):=by kernel_rfl
def gf(p:b8)(k:Nat):Bool:=aO (((p 5).rows.getD k []) 1)&&((List.range (((p 5).rows.getD k []) 1).rows.length).all (fun j=>holds (p 4) (((p 5).rows.getD k []) 0) (dX ((((p 5).rows.getD k []) 1).rows.getD j [])) (.i 2))&&(!aA (p 6) (((p 5).rows.getD k []) 0).int && !aA (p 7) (((p 5).rows.getD k []) 0).int))
def eS(p:b8):Nat->Bool
 | 0=>inB (((p 5).rows.getD 0 []) 0).int 1 60&&gf p 0
 | k+1=>inB (((p 5).rows.getD (k+1) []) 0).int 1 60&&(!leI (((p 5).rows.getD (k+1) []) 0).int (((p 5).rows.getD k []) 0).int&&gf p (k+1))
def fG(p:b8):Bool:=(List.range (p 5).rows.length).all (eS p)
theorem tN{z:D}(h:aO z=true):z.rows.length<=60:=by simp only[aO,a9,f7] at h;omega
theorem ahi(p:b8)(N:Nat)(hN:61<=N)(J O:D)(k:Nat)(hwo:aO (gd ((gd p 5).rows.getD k []) 1)=true) :
  ba (fu N p) N [gd p 0,gd p 1,gd p 2,gd p 3,gd p 4,gd p 5,gd p 6,gd p 7,gd p 8,.i 0,.i 0,.i (k:Int),J,.i 0,O,.i 0,gd p 0,gd p 1,gd p 2,gd p 3,gd p 4,gd p 5,gd p 6,gd p 7,gd p 8,gd ((gd p 5).rows.getD k []) 0,gd ((gd p 5).rows.getD k []) 1] =
  some (bif (List.range (gd ((gd p 5).rows.getD k []) 1).rows.length).all (fun j=>holds (gd p 4) (gd ((gd p 5).rows.getD k []) 0) (dX ((gd ((gd p 5).rows.getD k []) 1).rows.getD j [])) (.i 2)) then (4,[gd p 0,gd p 1,gd p 2,gd p 3,gd p 4,gd p 5,gd p 6,gd p 7,gd p 8,.i 0,.i 0,.i (k:Int),J,.i 0,O,.i ((gd ((gd p 5).rows.getD k []) 1).rows.length:Int),gd p 0,gd p 1,gd p 2,gd p 3,gd p 4,gd p 5,gd p 6,gd p 7,gd p 8,gd ((gd p 5).rows.getD k []) 0,gd ((gd p 5).rows.getD k []) 1]) else (1,[.b false])):=by
 have V:=tN hwo;have e:=cU (L:=fu N p) (fun j => [gd p 0,gd p 1,gd p 2,gd p 3,gd p 4,gd p 5,gd p 6,gd p 7,gd p 8,.i 0,.i 0,.i (k:Int),J,.i 0,O,.i (j:Int),gd p 0,gd p 1,gd p 2,gd p 3,gd p 4,gd p 5,gd p 6,gd p 7,gd p 8,gd ((gd p 5).rows.getD k []) 0,gd ((gd p 5).rows.getD k []) 1]) (gd ((gd p 5).rows.getD k []) 1).rows.length (fun j=>holds (gd p 4) (gd ((gd p 5).rows.getD k []) 0) (dX ((gd ((gd p 5).rows.getD k []) 1).rows.getD j [])) (.i 2)) [.b false] 2 (fun j U=>?_) ?_ (N:=N) (by omega)
 ·simp only[g9] at e;exact e
 ·show fu N p [_,_,_,_,_,_,_,_,_,_,_,_,_,_,_,.i (j:Int),_,_,_,_,_,_,_,_,_,_,_]=_;rw[vu];simp only[aE,cy U,bn U,aF U (show (gd ((gd p 5).rows.getD k []) 1).rows.length<=9223372036854775807 from by omega),g4];rw[show holds (gd p 4) (gd ((gd p 5).rows.getD k []) 0) [gd ((gd ((gd p 5).rows.getD k []) 1).rows.getD j []) 0,.i (w64 ((gd ((gd ((gd p 5).rows.getD k []) 1).rows.getD j []) 0).int+1))] (.i 2)=holds (gd p 4) (gd ((gd p 5).rows.getD k []) 0) (dX ((gd ((gd p 5).rows.getD k []) 1).rows.getD j [])) (.i 2) from rfl];cases holds (gd p 4) (gd ((gd p 5).rows.getD k []) 0) (dX ((gd ((gd p 5).rows.getD k []) 1).rows.getD j [])) (.i 2) <;> rfl
 ·show fu N p [_,_,_,_,_,_,_,_,_,_,_,_,_,_,_,.i ((gd ((gd p 5).rows.getD k []) 1).rows.length:Int),_,_,_,_,_,_,_,_,_,_,_]=_;rw[vu];simp only[aE,bF]
def zt:Ent:=(200,e1 (ag aK) fun p=>(⟨rb,[.b (fG p)]⟩,true))
theorem IP:aw f4 zt:=ck fun p h=>aq (N:=(p 5).rows.length+61) (ks:=md) (ap (fC ⟨jo,fC ⟨mm,fC ⟨wm,fC ⟨mc,fC ⟨jJ,fN⟩⟩⟩⟩⟩)) Tryz.func200 fun hw=>by
 rw[IZ];have J:=aky (hw ⟨ag aK,p⟩ (by simp)) (j:=5) rfl;have e:=cU (L:=gj ((p 5).rows.length+61) p) (fun k => [p 0,p 1,p 2,p 3,p 4,p 5,p 6,p 7,p 8,.i 0,.i 0,.i (k:Int),p 0,p 1,p 2,p 3,p 4,p 5,p 6,p 7,p 8]) (p 5).rows.length (eS p) [.b false] 0 (fun k hk=>?_) ?_ (N:=(p 5).rows.length+61) (by omega)
 ·simp only[g9] at e;rw[e];unfold fG;cases (List.range (p 5).rows.length).all (eS p) <;> rfl
 ·cases k with
  | zero =>
   show gj _ p [_,_,_,_,_,_,_,_,_,_,_,.i ((0:Nat):Int),_,_,_,_,_,_,_,_,_]=_;rw[pw];simp only[aE,fI hk,f8,bn hk,g4,Bo,f5,eS,gf];cases inB (p 5 0 0).int 1 60 <;> try rfl
   cases hwo:aO (p 5 0 1) <;> try rfl
   simp only[l8,f5,ahi p _ (show 61<=(p 5).rows.length+61 from by omega) _ _ 0 hwo];cases (List.range (p 5 0 1).rows.length).all (fun j=>holds (p 4) (p 5 0 0) (dX (((p 5).rows.getD 0 []) 1 j)) (.i 2)) <;> try rfl
   simp only[nd,f8,f5,w7,Out.code,Out.pay,w3,aL,aJ,Nat.reduceBEq,Nat.reduceAdd,aE,gX,so,bp,l8,w5,n8,aF hk J];cases aA (p 6) (p 5 0 0).int <;> cases aA (p 7) (p 5 0 0).int <;> rfl
  | succ k =>
   show gj _ p [_,_,_,_,_,_,_,_,_,_,_,.i ((k+1:Nat):Int),_,_,_,_,_,_,_,_,_]=_;rw[pw];simp only[aE,fI hk,f8,bn hk,g4,zX,mV (show k+1<=9223372036854775807 from by omega),bn (G5 hk),eS,gf];cases inB (p 5 (k+1) 0).int 1 60 <;> try rfl
   cases leI (p 5 (k+1) 0).int (p 5 k 0).int <;> try rfl
   cases hwo:aO (p 5 (k+1) 1) <;> try rfl
   simp only[l8,f5,ahi p _ (show 61<=(p 5).rows.length+61 from by omega) _ _ (k+1) hwo];cases (List.range (p 5 (k+1) 1).rows.length).all (fun j=>holds (p 4) (p 5 (k+1) 0) (dX (((p 5).rows.getD (k+1) []) 1 j)) (.i 2)) <;> try rfl
   simp only[nd,f8,f5,w7,Out.code,Out.pay,w3,aL,aJ,Nat.reduceBEq,Nat.reduceAdd,aE,gX,so,bp,l8,w5,n8,aF hk J];cases aA (p 6) (p 5 (k+1) 0).int <;> cases aA (p 7) (p 5 (k+1) 0).int <;> rfl
 ·show gj _ p [_,_,_,_,_,_,_,_,_,_,_,.i (p 5:Int),_,_,_,_,_,_,_,_,_]=_;rw[pw];simp only[aE,bF]
abbrev BV:=find []
theorem IY:av f4 BV:=ap (fN)
abbrev CG:=[0,1,2,4]
theorem Kw(N:Nat)(p q:b8):aZ f4 BV N CG Tryz.f274 ri [⟨ag AD,p⟩,⟨ri,q⟩]=some (bo,
 oi (w64 ((p 0).int - (q 0).int))):=by kernel_rfl
def uc:Ent:=(274,e2 (ag AD) ri fun p q=>(⟨ri,[.i (w64 ((p 0).int - (q 0).int))]⟩,true))
theorem wB:aw f4 uc:=bj fun p q h=>aq (N:=0) (ks:=CG) IY Tryz.func274 fun hw=>by
 rw[Kw]
 skip
abbrev ale:=find [uc]
abbrev alZ:=[0,1,2,6,7,8,9,10,11,17,31]
def ahC(N:Nat)(p q r:b8):b8->Out:=bc f4 ale N alZ Tryz.f273 (.tup [.c (.d si),.c (.d (.bool))]) [⟨sd (.sl 108),p⟩,⟨ri,q⟩,⟨.one (.c (.fn 274 [])),r⟩] 0
theorem amW(N:Nat)(p q r:b8)(U V x2 Z Y x5 J O:D):(ahC N p q r) [U,V,x2,Z,Y,x5,J,O] =
 bif ltI J.int O.int then nd (leI 0 1) (nd (al (w64 ((IntKind.u64.wrap (w64 (J.int+O.int))).fdiv (2 ^ (min 1 64)))) U.rows.length) (bif ltI (w64 ((U.rows.getD (w64 ((IntKind.u64.wrap (w64 (J.int+O.int))).fdiv (2 ^ (min 1 64)))).toNat [] 0).int - V.int)) 0 then nx [U,V,x2,Z,Y,x5,.i (w64 ((w64 ((IntKind.u64.wrap (w64 (J.int+O.int))).fdiv (2 ^ (min 1 64))))+1)),O]
 else nx [U,V,x2,Z,Y,x5,J,.i (w64 ((IntKind.u64.wrap (w64 (J.int+O.int))).fdiv (2 ^ (min 1 64))))]))
 else ex 0 [U,V,x2,Z,Y,x5,J,O]:=by kernel_rfl
def akH(N:Nat)(p q r:b8):Out:=let J:=ba (ahC N p q r) N [p 0,q 0,r 0,.i 0,.i 0,.i (p 0:Int),.i 0,.i (p 0:Int)];nd J.isSome (nd (J.code==2) (bif ltI (J.pay 6).int (J.pay 5).int then nd (al (J.pay 6).int (J.pay 0).rows.length) (some (1,[J.pay 6,.b ((w64 ((((J.pay 0).rows.getD (J.pay 6).int.toNat []) 0).int - (J.pay 1).int))==0)])) else some (1,[J.pay 6,.b false])))
theorem amc(N:Nat)(p q r:b8):aZ f4 ale N alZ Tryz.f273 (.tup [.c (.d si),.c (.d (.bool))]) [⟨sd (.sl 108),p⟩,⟨ri,q⟩,⟨.one (.c (.fn 274 [])),r⟩]=some (bo,(akH N p q r)):=by kernel_rfl
def bI(z:D)(k:Nat):Int:=(z.rows.getD k [] 0).int
def bl(z:D)(t:Int):Nat:=cnt (fun k=>ltI (bI z k) t) 0 z.rows.length
def bsB(z:D)(t:Int):Bool:=ltI (bl z t:Int) (z:Int)&&(bI z (bl z t)==t)
theorem aai(C:Nat->Bool):∀b k a,cnt C k (a+b)=cnt C k a+cnt C (k+a) b
 | 0,k,a=>rfl
 | b+1,k,a=>by rw[<- p8,im,im,aai C b k a,p8,p8]
theorem abI{C:Nat->Bool}:∀m k,(∀j,j<m->C (k+j)=true)->cnt C k m=m
 | 0,_,_=>rfl
 | m+1,k,h=>by rw[im,abI m k (fun j J=>h j (by omega)),h m (by omega)];rfl
theorem ahx{C:Nat->Bool}:∀m k,(∀j,j<m->C (k+j)=false)->cnt C k m=0
 | 0,_,_=>rfl
 | m+1,k,h=>by rw[im,ahx m k (fun j J=>h j (by omega)),h m (by omega)];rfl
theorem qB{z:D}{t:Int}{i:Nat}(hi:i<=z.rows.length)(h1:∀k,k<i->bI z k<t)(U:∀k,i<=k->k<z.rows.length->t<=bI z k):bl z t=i:=by unfold bl;obtain⟨m,O⟩:∃m,z.rows.length=i+m:=⟨z.rows.length - i,by omega⟩;rw[O,aai,abI i 0 (fun j J=>by rw[i9];exact gJ (h1 j J)),ahx m (0+i) (fun j J=>by rw[i9];exact gh (U (i+j) (by omega) (by omega)))];omega
structure aif(z:D):Prop where
 len:z.rows.length<=60
 key:∀k,k<z.rows.length->0<=bI z k/\bI z k<=999
 lt:∀i j,i<j->j<z.rows.length->bI z i<bI z j
theorem dw{z:D}(h:aN z=true):aif z:=by
 simp only[aN,a9,i6,m0,leI,f7] at h;obtain⟨h,V⟩:=h;refine⟨by omega,fun k hk=>?_,fun i j O J=>?_⟩
 ·have:=h k hk;cases k with
  | zero=>simp only[storeAt,a9,inB,f7] at this;exact⟨this.1.1,this.1.2⟩
  | succ k=>simp only[storeAt,a9,inB,f7] at this;exact⟨this.1.1,this.1.2⟩
 ·obtain⟨d,rfl⟩:∃d,j=i+d+1:=⟨j - i - 1,by omega⟩;have hs:∀k,k+1<z.rows.length->bI z k<bI z (k+1):=fun k hk=>by have:=h (k+1) hk;simp only[storeAt,a9,leI,m6,y6] at this;unfold bI;omega
  clear O
  induction d with
  | zero=>exact hs i J
  | succ d U=>exact Int.lt_trans (U (by omega)) (hs (i+d+1) J)
theorem aib{x:Int}(h:0<=x)(J:x<=9223372036854775807):IntKind.u64.wrap x=x:=by simp only[IntKind.wrap,IntKind.signed,IntKind.bits];simp;omega
theorem anh{i j:Nat}(h:i+j<=1000):w64 ((IntKind.u64.wrap (w64 ((i:Int)+(j:Int)))).fdiv (2 ^ (min 1 64)))=(((i+j) / 2:Nat):Int):=by rw[br (x:=(i:Int)+j) (by omega) (by omega),aib (by omega) (by omega),show ((2:Int) ^ (min 1 64))=((2:Nat):Int) from rfl,show ((i:Int)+(j:Int))=((i+j:Nat):Int) from by omega,<- Int.ofNat_fdiv,br (by omega) (by omega)]
theorem ajC(p q r:b8)(N:Nat)(hz:aif (p 0))(Z:inB (q 0).int 0 999=true):∀(d i j M:Nat),j=i+d->j<=(p 0).rows.length->d<M->(∀k,k<i->bI (p 0) k<(q 0).int)->(∀k,j<=k->k<(p 0).rows.length->(q 0).int<=bI (p 0) k) ->
  ba (ahC N p q r) M [p 0,q 0,r 0,.i 0,.i 0,.i (p 0:Int),.i (i:Int),.i (j:Int)]=some (2,[p 0,q 0,r 0,.i 0,.i 0,.i (p 0:Int),.i (bl (p 0) (q 0).int:Int),.i (bl (p 0) (q 0).int:Int)]):=by
 intro d
 induction d using Nat.strongRecOn with
 | _ d V =>
 intro i j M hj hn hM h1 U;have a0:=hz.len;simp only[inB,a9,f7] at Z;obtain⟨M,rfl⟩:∃M',M=M'+1:=⟨M - 1,by omega⟩;rw[ba,amW];simp only[aE];by_cases Y:d=0
 ·subst Y;obtain rfl:j=i:=by omega
  rw[bF,qB hn h1 U];rfl
 ·rw[cy (show i<j from by omega)];have J:(i+j) / 2<(p 0).rows.length:=by omega
  simp only[anh (show i+j<=1000 from by omega),bn J,g4,show leI 0 1=true from rfl,aP];have hk:=hz.key _ J;rw[show (p 0 ((i+j) / 2) 0).int=bI (p 0) ((i+j) / 2) from rfl,br (x:=bI (p 0) ((i+j) / 2) - (q 0).int) (by omega) (by omega)];by_cases hc:bI (p 0) ((i+j) / 2)<(q 0).int
  ·rw[gJ (show bI (p 0) ((i+j) / 2) - (q 0).int<0 from by omega),f8];simp only[aF J (show (p 0).rows.length<=9223372036854775807 from by omega)];exact V (j - ((i+j) / 2+1)) (by omega) ((i+j) / 2+1) j M (by omega) hn (by omega) (fun k a2=>by
    rcases A6 k ((i+j) / 2) with h | h
    ·have:=hz.lt k _ h J;omega
    ·obtain rfl:k=(i+j) / 2:=by omega
     exact hc) U
  ·rw[gh (show 0<=bI (p 0) ((i+j) / 2) - (q 0).int from by omega),f5];exact V ((i+j) / 2 - i) (by omega) i ((i+j) / 2) M (by omega) (by omega) (by omega) h1 (fun k a1 O=>by
    rcases A6 ((i+j) / 2) k with h | h
    ·have:=hz.lt _ k h O;omega
    ·obtain rfl:k=(i+j) / 2:=by omega
     omega)
def amh:Ent:=(273,e3 (sd (.sl 108)) ri (.one (.c (.fn 274 []))) fun p q r=>(⟨.tup [.c (.d si),.c (.d (.bool))],[.i (bl (p 0) (q 0).int:Int),.b (bsB (p 0) (q 0).int)]⟩,aN (p 0)&&inB (q 0).int 0 999))
theorem alp:aw f4 amh:=em fun p q r h=>aq (N:=61) (ks:=alZ) (ap (fC ⟨wB,fN⟩)) Tryz.func273 fun hw=>by
 rw[amc];have h:(aN (p 0)&&inB (q 0).int 0 999)=true:=h;simp only[a9] at h;have hz:=dw h.1;have V:=hz.len;have e:=ajC p q r 61 hz h.2 (p 0).rows.length 0 (p 0).rows.length 61 (by omega) (g8 _) (by omega) (fun k hk=>absurd hk (D5 _)) (fun k h1 O=>absurd O (by omega));simp only[g9] at e;unfold akH;rw[e];simp only[nd,f8,f5,w7,Out.code,Out.pay,w3,aL,aJ,Nat.reduceBEq,Nat.reduceAdd,aE,gX,so,bp,l8,w5,n8];unfold bsB;have U:=h.2;simp only[inB,a9,f7] at U;by_cases J:bl (p 0) (q 0).int<(p 0).rows.length
 ·have hk:=hz.key _ J;rw[fI J,bP J,g4,show (p 0 (bl (p 0) (q 0).int) 0).int=bI (p 0) (bl (p 0) (q 0).int) from rfl,br (x:=bI (p 0) (bl (p 0) (q 0).int) - (q 0).int) (by omega) (by omega)];rw[show (bI (p 0) (bl (p 0) (q 0).int) - (q 0).int==0)=(bI (p 0) (bl (p 0) (q 0).int)==(q 0).int) from by rw[p7];simp only[p6];omega];rfl
 ·rw[gh (show (p 0:Int)<=(bl (p 0) (q 0).int:Int) from by omega)];rfl
abbrev Kz:=find [amh]
abbrev Ly:=[0,1,4,5]
theorem Sf(N:Nat)(p q:b8):aZ f4 Kz N Ly Tryz.f244 (.tup [.c (.d si),.c (.d (.bool))]) [⟨sd (.sl 108),p⟩,⟨ri,q⟩]=some (bo,
 nd (aN (p 0)&&inB (q 0).int 0 999) (some (1,[.i (bl (p 0) (q 0).int:Int),.b (bsB (p 0) (q 0).int)]))):=by kernel_rfl
def LA:Ent:=(244,e2 (sd (.sl 108)) ri fun p q=>(⟨.tup [.c (.d si),.c (.d (.bool))],[.i (bl (p 0) (q 0).int:Int),.b (bsB (p 0) (q 0).int)]⟩,aN (p 0)&&inB (q 0).int 0 999))
theorem SA:aw f4 LA:=bj fun p q h=>aq (N:=0) (ks:=Ly) (ap (fC ⟨alp,fN⟩)) Tryz.func244 fun hw=>by rw[Sf];have h:(aN (p 0)&&inB (q 0).int 0 999)=true:=h;rw[h,aP]
abbrev MO:=find [LA]
abbrev MY:=[0,1,4,5,6,14]
theorem RV(N:Nat)(p q:b8):aZ f4 MO N MY Tryz.f175 ri [⟨sd (.sl 108),p⟩,⟨ri,q⟩]=some (bo,
 nd (aN (p 0)&&inB (q 0).int 0 999) (bif !(bsB (p 0) (q 0).int) then oi (-1)
 else nd (al (bl (p 0) (q 0).int:Int) (p 0).rows.length) (some (1,[((p 0).rows.getD (bl (p 0) (q 0).int:Int).toNat []) 1])))):=by kernel_rfl
def xu(z:D)(t:Int):D:=bif bsB z t then z.rows.getD (bl z t) [] 1 else .i (-1)
def LU:Ent:=(175,e2 (sd (.sl 108)) ri fun p q=>(⟨ri,[xu (p 0) (q 0).int]⟩,aN (p 0)&&inB (q 0).int 0 999))
theorem Tw:aw f4 LU:=bj fun p q h=>aq (N:=0) (ks:=MY) (ap (fC ⟨SA,fN⟩)) Tryz.func175 fun hw=>by
 rw[RV];have h:(aN (p 0)&&inB (q 0).int 0 999)=true:=h;rw[h,aP];unfold xu;cases O:bsB (p 0) (q 0).int
 ·rfl
 ·have J:=O;simp only[bsB,a9,ltI,f7] at J;rw[bP (show bl (p 0) (q 0).int<(p 0).rows.length from by omega)];rfl
abbrev ES:=find []
theorem TI:av f4 ES:=ap (fN)
abbrev Fc:=[0,1,4,5,9,18]
def pJ(N:Nat)(p q:b8):b8->Out:=bc f4 ES N Fc Tryz.f206 ri [⟨sd (.sl 108),p⟩,⟨ri,q⟩] 0
theorem NH(N:Nat)(p q:b8)(J U V O:D):(pJ N p q) [J,U,V,O] =
 bif ltI O.int J then nd (al O.int J.rows.length) (bif (J.rows.getD O.int.toNat [] 0).int==U.int then nd (al O.int J.rows.length) (some (1,[J.rows.getD O.int.toNat [] 1]))
 else nx [J,U,V,.i (w64 (O.int+1))])
 else ex 0 [J,U,V,O]:=by kernel_rfl
theorem Vh(N:Nat)(p q:b8):aZ f4 ES N Fc Tryz.f206 ri [⟨sd (.sl 108),p⟩,⟨ri,q⟩]=some (bo,
 (let J:=ba (pJ N p q) N [p 0,q 0,.i 0,.i 0]
  nd J.isSome (bif J.code==1 then some (1,J.pay)
  else nd (J.code==2) (oi (-1))))):=by kernel_rfl
theorem aaf{ex:Nat->Option (Nat × b8)}{o:Nat × b8}:∀(m k i:Nat),i<m->ex (k+i)=some o->(∀j,j<i->ex (k+j)=none)->LR ex k m=some o
 | 0,_,_,h,_,_=>absurd h (D5 _)
 | m+1,k,0,_,h,_=>by rw[LR,show ex k=some o from h]
 | m+1,k,i+1,hi,h,hn=>by rw[LR,show ex k=none from hn 0 (by omega)];exact aaf m (k+1) i (by omega) (by rw[show k+1+i=k+(i+1) from by omega];exact h) fun j J=>by rw[show k+1+j=k+(j+1) from by omega];exact hn (j+1) (by omega)
theorem aae{ex:Nat->Option (Nat × b8)}:∀(m k:Nat),(∀j,j<m->ex (k+j)=none)->LR ex k m=none
 | 0,_,_=>rfl
 | m+1,k,h=>by rw[LR,show ex k=none from h 0 (by omega)];exact aae m (k+1) fun j J=>by rw[show k+1+j=k+(j+1) from by omega];exact h (j+1) (by omega)
def FZ:Ent:=(206,e2 (sd (.sl 108)) ri fun p q=>(⟨ri,[xu (p 0) (q 0).int]⟩,aN (p 0)))
theorem Iv:aw f4 FZ:=bj fun p q h=>aq (N:=61) (ks:=Fc) TI Tryz.func206 fun hw=>by
 rw[Vh];have h:aN (p 0)=true:=h;have hz:=dw h;have a0:=hz.len;have e:=FJ (step:=pJ 61 p q) (fun k => [p 0,q 0,.i 0,.i (k:Int)]) (fun k=>bif bI (p 0) k==(q 0).int then some (1,[p 0 k 1]) else none) (2,[p 0,q 0,.i 0,.i (p 0:Int)]) (n:=(p 0).rows.length) (fun k hk=>?_) (fun k o h=>?_) ?_ (by simp) (p 0).rows.length 0 61 (by omega) (by omega)
 ·simp only[g9] at e;rw[e];unfold xu;cases J:bsB (p 0) (q 0).int
  ·rw[aae _ _ fun j O=>?_]
   ·rfl
   ·rw[i9];cases hk:bI (p 0) j==(q 0).int
    ·rfl
    ·have hk:=eq_of_beq hk;have hl:bl (p 0) (q 0).int=j:=qB (by omega) (fun k V=>by have:=hz.lt k j V O;omega) (fun k h1 Z=>by
      rcases A6 j k with h | h
      ·have:=hz.lt j k h Z;omega
      ·obtain rfl:k=j:=by omega
       omega)
     unfold bsB at J;rw[hl,fI O,hk,n8] at J;cases J
  ·simp only[bsB,a9,ltI,f7] at J;have U:bl (p 0) (q 0).int<(p 0).rows.length:=by omega
   rw[aaf _ _ (bl (p 0) (q 0).int) U (by rw[i9,J.2];rfl) fun j O=>?_]
   ·rfl
   ·rw[i9,show (bI (p 0) j==(q 0).int)=false from v8.2 (by have:=hz.lt j _ O U;have:=eq_of_beq J.2;omega)];rfl
 ·show pJ _ p q [_,_,_,.i (k:Int)]=_;rw[NH];simp only[aE,cy hk,bn hk,aF hk (show (p 0).rows.length<=9223372036854775807 from by omega),g4];rw[show (p 0 k 0).int=bI (p 0) k from rfl];cases bI (p 0) k==(q 0).int <;> rfl
 ·cases Y:bI (p 0) k==(q 0).int
  ·rw[Y] at h;cases h
  ·rw[Y,f8] at h;injection h with h
   rw[<- h];simp
 ·show pJ _ p q [_,_,_,.i (p 0:Int)]=_;rw[NH];simp only[aE,bF]
abbrev alw:=find [uc]
abbrev alY:=[0,1,2,6,7,8,9,10,11,17,31]
def aij(N:Nat)(p q r:b8):b8->Out:=bc f4 alw N alY Tryz.f273 (.tup [.c (.d si),.c (.d (.bool))]) [⟨sd (.sl 108),p⟩,⟨ri,q⟩,⟨.one (.c (.fn 274 [])),r⟩] 0
theorem amX(N:Nat)(p q r:b8)(U V x2 Z Y x5 J O:D):(aij N p q r) [U,V,x2,Z,Y,x5,J,O] =
 bif ltI J.int O.int then nd (leI 0 1) (nd (al (w64 ((IntKind.u64.wrap (w64 (J.int+O.int))).fdiv (2 ^ (min 1 64)))) U.rows.length) (bif ltI (w64 ((U.rows.getD (w64 ((IntKind.u64.wrap (w64 (J.int+O.int))).fdiv (2 ^ (min 1 64)))).toNat [] 0).int - V.int)) 0 then nx [U,V,x2,Z,Y,x5,.i (w64 ((w64 ((IntKind.u64.wrap (w64 (J.int+O.int))).fdiv (2 ^ (min 1 64))))+1)),O]
 else nx [U,V,x2,Z,Y,x5,J,.i (w64 ((IntKind.u64.wrap (w64 (J.int+O.int))).fdiv (2 ^ (min 1 64))))]))
 else ex 0 [U,V,x2,Z,Y,x5,J,O]:=by kernel_rfl
def akw(N:Nat)(p q r:b8)(J:Out):Out:=nd (al (J.pay 6).int (J.pay 0).rows.length) (some (1,[J.pay 6,.b ((w64 ((((J.pay 0).rows.getD (J.pay 6).int.toNat []) 0).int - (J.pay 1).int))==0)]))
def akm(N:Nat)(p q r:b8)(J:Out):Out:=bif ltI (J.pay 6).int (J.pay 5).int then (akw N p q r J) else some (1,[J.pay 6,.b false])
def aks(N:Nat)(p q r:b8):Out:=let J:Out:=ba (aij N p q r) N [p 0,q 0,r 0,.i 0,.i 0,.i (p 0:Int),.i 0,.i (p 0:Int)];nd J.isSome (nd (J.code==2) (akm N p q r J))
theorem ali(N:Nat)(p q r:b8):aZ f4 alw N alY Tryz.f273 (.tup [.c (.d si),.c (.d (.bool))]) [⟨sd (.sl 108),p⟩,⟨ri,q⟩,⟨.one (.c (.fn 274 [])),r⟩]=some (bo,(aks N p q r)):=by kernel_rfl
structure iz(z:D):Prop where
 len:z.rows.length<=1000
 key:∀k,k<z.rows.length->0<=bI z k/\bI z k<=999
 lt:∀i j,i<j->j<z.rows.length->bI z i<bI z j
def cl(z:D):Bool:=leI z 1000&&(List.range z.rows.length).all fun k=>inB (bI z k) 0 999&&(k==0||ltI (bI z (k - 1)) (bI z k))
theorem rK{z:D}(h:cl z=true):iz z:=by
 simp only[cl,a9,i6,m0,leI,ltI,inB,f7,y9,p6] at h;obtain⟨V,h⟩:=h;refine⟨by omega,fun k hk=>(h k hk).1,fun i j O J=>?_⟩;obtain⟨d,rfl⟩:∃d,j=i+d+1:=⟨j - i - 1,by omega⟩;have hs:∀k,k+1<z.rows.length->bI z k<bI z (k+1):=fun k hk=>by
  rcases (h (k+1) hk).2 with h0 | h0
  ·omega
  ·simpa using h0
 clear O
 induction d with
 | zero=>exact hs i J
 | succ d U=>exact Int.lt_trans (U (by omega)) (hs (i+d+1) J)
theorem Rs{z:D}(h:iz z):cl z=true:=by
 simp only[cl,a9,i6,m0,leI,ltI,inB,f7,y9,p6];refine⟨by have:=h.len;omega,fun k hk=>⟨h.key k hk,?_⟩⟩;rcases C4 k with rfl | hk0
 ·exact .inl rfl
 ·exact .inr (h.lt (k - 1) k (by omega) hk)
theorem akI{i j:Nat}(h:i+j<=100000):w64 ((IntKind.u64.wrap (w64 ((i:Int)+(j:Int)))).fdiv (2 ^ (min 1 64)))=(((i+j) / 2:Nat):Int):=by rw[br (x:=(i:Int)+j) (by omega) (by omega),aib (by omega) (by omega),show ((2:Int) ^ (min 1 64))=((2:Nat):Int) from rfl,show ((i:Int)+(j:Int))=((i+j:Nat):Int) from by omega,<- Int.ofNat_fdiv,br (by omega) (by omega)]
theorem ahA(p q r:b8)(N:Nat)(hz:iz (p 0))(Z:inB (q 0).int 0 999=true):∀(d i j M:Nat),j=i+d->j<=(p 0).rows.length->d<M->(∀k,k<i->bI (p 0) k<(q 0).int)->(∀k,j<=k->k<(p 0).rows.length->(q 0).int<=bI (p 0) k) ->
  ba (aij N p q r) M [p 0,q 0,r 0,.i 0,.i 0,.i (p 0:Int),.i (i:Int),.i (j:Int)]=some (2,[p 0,q 0,r 0,.i 0,.i 0,.i (p 0:Int),.i (bl (p 0) (q 0).int:Int),.i (bl (p 0) (q 0).int:Int)]):=by
 intro d
 induction d using Nat.strongRecOn with
 | _ d V =>
 intro i j M hj hn hM h1 U;have a0:=hz.len;simp only[inB,a9,f7] at Z;obtain⟨M,rfl⟩:∃M',M=M'+1:=⟨M - 1,by omega⟩;rw[ba,amX];simp only[aE];by_cases Y:d=0
 ·subst Y;obtain rfl:j=i:=by omega
  rw[bF,qB hn h1 U];rfl
 ·rw[cy (show i<j from by omega)];have J:(i+j) / 2<(p 0).rows.length:=by omega
  simp only[akI (show i+j<=100000 from by omega),bn J,g4,show leI 0 1=true from rfl,aP];have hk:=hz.key _ J;rw[show (p 0 ((i+j) / 2) 0).int=bI (p 0) ((i+j) / 2) from rfl,br (x:=bI (p 0) ((i+j) / 2) - (q 0).int) (by omega) (by omega)];by_cases hc:bI (p 0) ((i+j) / 2)<(q 0).int
  ·rw[gJ (show bI (p 0) ((i+j) / 2) - (q 0).int<0 from by omega),f8];simp only[aF J (show (p 0).rows.length<=9223372036854775807 from by omega)];exact V (j - ((i+j) / 2+1)) (by omega) ((i+j) / 2+1) j M (by omega) hn (by omega) (fun k a2=>by
    rcases A6 k ((i+j) / 2) with h | h
    ·have:=hz.lt k _ h J;omega
    ·obtain rfl:k=(i+j) / 2:=by omega
     exact hc) U
  ·rw[gh (show 0<=bI (p 0) ((i+j) / 2) - (q 0).int from by omega),f5];exact V ((i+j) / 2 - i) (by omega) i ((i+j) / 2) M (by omega) (by omega) (by omega) h1 (fun k a1 O=>by
    rcases A6 ((i+j) / 2) k with h | h
    ·have:=hz.lt _ k h O;omega
    ·obtain rfl:k=(i+j) / 2:=by omega
     omega)
def anf:Ent:=(273,e3 (sd (.sl 108)) ri (.one (.c (.fn 274 []))) fun p q r=>(⟨.tup [.c (.d si),.c (.d (.bool))],[.i (bl (p 0) (q 0).int:Int),.b (bsB (p 0) (q 0).int)]⟩,cl (p 0)&&inB (q 0).int 0 999))
theorem alE:aw f4 anf:=em fun p q r h=>aq (N:=1001) (ks:=alY) (ap (fC ⟨wB,fN⟩)) Tryz.func273 fun hw=>by
 rw[ali];have h:(cl (p 0)&&inB (q 0).int 0 999)=true:=h;simp only[a9] at h;have hz:=rK h.1;have V:=hz.len;have e:=ahA p q r 1001 hz h.2 (p 0).rows.length 0 (p 0).rows.length 1001 (by omega) (g8 _) (by omega) (fun k hk=>absurd hk (D5 _)) (fun k h1 O=>absurd O (by omega));simp only[g9] at e;unfold aks akm akw;rw[e];simp only[nd,f8,f5,w7,Out.code,Out.pay,w3,aL,aJ,Nat.reduceBEq,Nat.reduceAdd,aE,gX,so,bp,l8,w5,n8];unfold bsB;have U:=h.2;simp only[inB,a9,f7] at U;by_cases J:bl (p 0) (q 0).int<(p 0).rows.length
 ·have hk:=hz.key _ J;rw[fI J,bP J,g4,show (p 0 (bl (p 0) (q 0).int) 0).int=bI (p 0) (bl (p 0) (q 0).int) from rfl,br (x:=bI (p 0) (bl (p 0) (q 0).int) - (q 0).int) (by omega) (by omega)];rw[show (bI (p 0) (bl (p 0) (q 0).int) - (q 0).int==0)=(bI (p 0) (bl (p 0) (q 0).int)==(q 0).int) from by rw[p7];simp only[p6];omega];rfl
 ·rw[gh (show (p 0:Int)<=(bl (p 0) (q 0).int:Int) from by omega)];rfl
abbrev If:=find [anf]
abbrev Hx:=[0,1,4,5]
theorem OF(N:Nat)(p q:b8):aZ f4 If N Hx Tryz.f244 (.tup [.c (.d si),.c (.d (.bool))]) [⟨sd (.sl 108),p⟩,⟨ri,q⟩]=some (bo,
 nd (cl (p 0)&&inB (q 0).int 0 999) (some (1,[.i (bl (p 0) (q 0).int:Int),.b (bsB (p 0) (q 0).int)]))):=by kernel_rfl
def Hg:Ent:=(244,e2 (sd (.sl 108)) ri fun p q=>(⟨.tup [.c (.d si),.c (.d (.bool))],[.i (bl (p 0) (q 0).int:Int),.b (bsB (p 0) (q 0).int)]⟩,cl (p 0)&&inB (q 0).int 0 999))
theorem ON:aw f4 Hg:=bj fun p q h=>aq (N:=0) (ks:=Hx) (ap (fC ⟨alE,fN⟩)) Tryz.func244 fun hw=>by rw[OF];have h:(cl (p 0)&&inB (q 0).int 0 999)=true:=h;rw[h,aP]
end Go.Proofs.YtpdfmcmnjikppaaGreat
namespace Go.Proofs.YtpdfmcmnjikppaaGreat.H
open Go.RowKit Go.Lib
set_option maxRecDepth 100000
set_option maxHeartbeats 4000000
theorem fy{P:Program}(w:World)(dT sT ty J k:TypeId)(b o n O Y:Nat)(a:Addr)(U Z:Nat)(cs:List Value)
  (hu:P.underlying dT=some (.slice J)) (hs:(P.info? J).map (·.size)=some k) (hn:n=Nat.min U O) (hl:cs.length=n*k)
  (a0:∀j v,cs[j]?=some v->w.cell? (a.add j)=some v) (hc:∀j,j<cs.length->(w.cell? ⟨b,o+j,none⟩).isSome=true) (hf:∀j,j<cs.length->w.frozen? ⟨b,o+j,none⟩=false) (h1:∀v∈cs,v.oneCell'=true) :
  (Builtin.copy_ #[dT,sT] ty #[.slice (some ⟨b,o,none⟩) O Y,.slice (some a) U Z]).run P w=.ok (goInt n) (w.setCells b o cs):=by
 have V:=run_loadCells_list (P:=P) w a cs a0;have a1:=run_storeCells_cells (P:=P) b o cs 0 w (by simpa using hc) (by simpa using hf) h1;cases hq:P.info? J with
 | none=>simp[hq] at hs
 | some i =>
  have hi:i.size=k:=by simpa [hq] using hs
  rw[hl] at V;simp[Builtin.copy_,run_underlying hu,Builtin.lenOf,Builtin.firstCells,sizeOf,typeInfo,hq,hi,<- hn,V,a1]
theorem Ke{P:Program}(w:World)(t e ty:TypeId)(z:Value)(Y:P.underlying t=some (.slice e))(hv:∀w,(zeroValue e).run P w=.ok z w)(h1:∀u∈z.cells.toList,u.oneCell'=true)(b o c:Nat)(hs:0<z.cells.size)
  (hc:∀j,j<z.cells.size->(w.cell? ⟨b,o+j,none⟩).isSome=true) (Z:∀j,j<z.cells.size->w.frozen? ⟨b,o+j,none⟩=false) :
  (Builtin.clear_ #[t] ty #[.slice (some ⟨b,o,none⟩) 1 c]).run P w=.ok (.tuple #[]) (w.setCells b o z.cells.toList):=by
 have U:(Builtin.zeroCells z.cells 1).toList=z.cells.toList:=by
  apply List.ext_getElem
  ·simp[Builtin.zeroCells]
  ·intro j h1 V;have J:j<z.cells.size:=by simpa using V
   simp[Builtin.zeroCells,Nat.mod_eq_of_lt J,getElem!_pos z.cells j J]
 have O:=run_storeCells_cells (P:=P) b o z.cells.toList 0 w (by simpa using hc) (by simpa using Z) h1;simp[Builtin.clear_,run_underlying Y,hv,U,O]
theorem ir(b:Nat)(J:List Value)(o:Nat)(w:World)(h:∀j,j<J.length->(w.cell? ⟨b,o+j,none⟩).isSome=true)(k:Nat)(hk:(w.cell? ⟨b,k,none⟩).isSome=true):((w.setCells b o J).cell? ⟨b,k,none⟩).isSome=true:=by
 by_cases hin:o<=k/\k<o+J.length
 ·obtain⟨j,rfl⟩:∃j,k=o+j:=⟨k - o,by omega⟩;rw[World.cell?_setCells_in b J o w h j (by omega)];rfl
 ·rw[E2 b _ _ _ _ (fun _ _=>by show k<o\/_<=k;omega)];exact hk
abbrev zc:Value:=.agg #[.int .i64 0,.int .i64 0]
theorem alu(w:World):(zeroValue 108).run f4 w=.ok zc w:=Tryz.zeroValue108 w
theorem info_cell:(Tryz.prog.info? 108).map (fun i=>(i.zero,i.size,i.bytes))=some (some zc,2,16):=by kernel_rfl
theorem del_cell(b off n c i j:Nat)(cs:List Value)(w:World)(hj:j=i+1)(hi:i<n)(c2:n<=c)(c0:c<=9223372036854775807)(a8:cs.length=n*2)(a1:∀j v,cs[j]?=some v->w.cell? ⟨b,off+j,none⟩=some v)
  (a2:∀j,j<n*2->w.frozen? ⟨b,off+j,none⟩=false) (h1:∀v∈cs,v.oneCell'=true) :
  Calls f4 285 #[.slice (some ⟨b,off,none⟩) n c,.int .i64 i,.int .i64 j] w fun e w' =>
   e=.returned (.slice (some ⟨b,off,none⟩) (n - 1) c)/\w'=(w.drew.setCells b (off+i*2) (cs.drop (j*2))).setCells b (off+(n - 1)*2) zc.cells.toList:=by
 obtain⟨i0,a7,c4,a6,c3⟩:=info_parts info_cell;have V:∀j,j<n*2->(w.cell? ⟨b,off+j,none⟩).isSome=true:=fun j hj=>by rw[a1 j _ (g6 (by omega))];rfl
 have b0:Tryz.prog.follows .mixedOrders=true:=by kernel_rfl
 have c5:¬((i:Int)=(j:Int)):=by omega
 obtain⟨J,U⟩:∃J,J=cs.drop (j*2):=⟨_,rfl⟩;have a0:J.length=(n - j)*2:=by rw[U,t5,a8,N0]
 have a3:∀t u,J[t]?=some u->w.cell? ⟨b,off+j*2+t,none⟩=some u:=fun t u O=>by rw[U,y0] at O;rw[p8];exact a1 _ u O
 have s2:Hid (∀u∈J,u.oneCell'=true):=fun u O=>h1 u (by rw[U] at O;exact B7 O)
 obtain⟨A,hA,a5⟩:∃A:Addr,(if c=j then some (⟨b,off,none⟩:Addr) else some ⟨b,off+j*2,none⟩)=some A/\Hid (∀t u,J[t]?=some u->w.drew.cell? (A.add t)=some u):=by
  by_cases h:c=j
  ·refine⟨⟨b,off,none⟩,by simp[h],fun t u O=>?_⟩;have h0:J.length=0:=by rw[a0];omega
   rw[L2.1 h0] at O;simp at O
  ·refine⟨⟨b,off+j*2,none⟩,by simp[h],fun t u O=>?_⟩;rw[z8];exact a3 t u O
 have s1:Hid (J.length=(n - j)*2):=a0;have s3:Hid (∀t,t<J.length->(w.drew.cell? ⟨b,off+i*2+t,none⟩).isSome=true/\w.drew.frozen? ⟨b,off+i*2+t,none⟩=false):=fun t Y=>by rw[a0] at Y;rw[p8];exact⟨V _ (by omega),a2 _ (by omega)⟩
 obtain⟨W1,Z⟩:∃W1,W1=w.drew.setCells b (off+i*2) J:=⟨_,rfl⟩;have c1:∀ty cc,(Builtin.clear_ #[33] ty #[.slice (some ⟨b,off+(n - 1)*2,none⟩) 1 cc]).run f4 W1=.ok (.tuple #[]) (W1.setCells b (off+(n - 1)*2) zc.cells.toList):=fun ty cc=>by
  refine Ke W1 _ _ ty zc Tryz.underlying33 alu (fun u O=>?_) b _ cc (by decide) (fun t Y=>?_) (fun t Y=>?_)
  ·simp[Value.cells] at O;subst O;rfl
  ·have Y:t<2:=Y;rw[Z];refine ir b _ _ _ (fun j hj=>?_) _ ?_
   ·rw[p8];exact V _ (by omega)
   ·rw[p8];exact V _ (by omega)
  ·have Y:t<2:=Y;rw[Z,D8,p8];exact a2 _ (by omega)
 have a4:Hid (W1=w.drew.setCells b (off+i*2) J):=Z;have e1:i+(n - j)=n - 1:=by omega
 have e2:n - (n - 1)=1:=by omega
 have b1:i<=c:=by omega
 have b2:j<=c:=by omega
 have b5:j<=n:=by omega
 have b6:i<=j:=by omega
 have b3:¬(c=n - 1):=by omega
 have b4:n - 1<=n:=by omega
 clear Z a1 a2 V a3 a0 hj;go_enter Tryz.func285,Tryz.ntmps285
 go_wp2_with fail
 go_region_law_o (refine step_append_room rfl (.tmp 22) (.tmp 25) 33 rfl 108 i0 2 Tryz.underlying33 a7 a6 b off i c (by simp[Act.eval,Act.put]) A (n - j) (c - j) J (by simp[Act.eval,Act.put]) s1.out a5.out s2.out (by omega) s3.out ?_;rw[<- a4.out,e1])
 go_wp2
 go_ret
 refine⟨rfl,?_⟩;rw[a4.out,U];rfl
theorem ins_shift(b off n c i k U J vc:Nat)(cs vs:List Value)(w:World)(hk:k=i+1)(hi:i<n)(c8:n+1<=c)(d1:c<=9223372036854775807)(b3:U≠b)
  (c7:cs.length=n*2) (a4:vs.length=2)
  (b4:∀j v,cs[j]?=some v->w.cell? ⟨b,off+j,none⟩=some v) (a0:∀j,j<(n+1)*2->(w.cell? ⟨b,off+j,none⟩).isSome=true) (a5:∀j,j<(n+1)*2->w.frozen? ⟨b,off+j,none⟩=false)
  (b2:∀j v,vs[j]?=some v->w.cell? ⟨U,J+j,none⟩=some v) (c1:∀v∈cs,v.oneCell'=true) (c5:∀v∈vs,v.oneCell'=true)
  (tA tB:TypeId) (kA kB:Nat) (a7:w.shape? U=some (tA,kA)) (a8:w.shape? b=some (tB,kB)) (c0:kB≠0) (a6:w.frozen? ⟨U,J,none⟩=false) (b5:w.frozen? ⟨U,kA,none⟩=false) :
  Calls f4 286 #[.slice (some ⟨b,off,none⟩) n c,.int .i64 i,.slice (some ⟨U,J,none⟩) 1 vc] w fun e w' =>
   e=.returned (.slice (some ⟨b,off,none⟩) (n+1) c)/\w'=(w.drew.setCells b (off+k*2) (cs.drop (i*2))).setCells b (off+i*2) vs:=by
 obtain⟨i0,c4,e9,c3,e7⟩:=info_parts info_cell;have c9:Tryz.prog.follows .mixedOrders=true:=by kernel_rfl
 have hz2:¬((i:Int)=(n:Int)):=by omega
 have b0:(Tryz.prog.info? 108).map (·.size)=some 2:=by rw[c4];simp[c3]
 have a1:=Tryz.underlying33;have c6:∀lb cb,(callFunc 296 #[.slice (some ⟨U,J,none⟩) 1 vc,.slice (some ⟨b,off+k*2,none⟩) lb cb]).run f4 w=.ok (.value (.bool false)) w:=fun lb cb=>by
  rw[run_callFunc_extern Tryz.func296 (by kernel_rfl) (by kernel_rfl) (by kernel_rfl) (e:=Extern.SlicesOverlaps.overlaps #[33,33] #[4]) (by kernel_rfl),
   Lib.run_overlaps_apart w 33 4 108 a1 2 Tryz.sizeOf108 ⟨U,J,none⟩ ⟨b,off+k*2,none⟩ 1 vc lb cb b3 tA tB kA kB a7 a8 c0 a6 b5]
  rfl
 have Y:(cs.drop (i*2)).length=(n - i)*2:=by rw[t5,c7,N0]
 have a3:∀ty Z sc,(Builtin.copy_ #[33,33] ty #[.slice (some ⟨b,off+k*2,none⟩) (n+1 - k) Z,.slice (some ⟨b,off+i*2,none⟩) (n+1 - i) sc]).run f4 w.drew=.ok (goInt ((n - i:Nat):Int)) (w.drew.setCells b (off+k*2) (cs.drop (i*2))):=fun ty Z sc =>
  fy w.drew _ _ ty 108 2 b (off+k*2) (n - i) (n+1 - k) Z ⟨b,off+i*2,none⟩ (n+1 - i) sc (cs.drop (i*2)) a1 b0 (by simp only[G3];split <;> omega) Y
   (fun j v O=>by rw[z8,p8];exact b4 (i*2+j) v (by rwa [y0] at O))
   (fun j O=>by rw[Y] at O;rw[p8];exact a0 _ (by omega)) (fun j O=>by rw[Y] at O;rw[p8];exact a5 _ (by omega)) (fun v hv=>c1 v (B7 hv))
 obtain⟨W1,V⟩:∃W1,W1=w.drew.setCells b (off+k*2) (cs.drop (i*2)):=⟨_,rfl⟩;have a2:∀t,t<(n+1)*2->(W1.cell? ⟨b,off+t,none⟩).isSome=true:=fun t ht=>by rw[V];exact ir b _ _ _ (fun j O=>by rw[Y] at O;rw[p8];exact a0 _ (by omega)) _ (a0 t ht)
 have b6:∀(W:World),(∀x,W.cell? x=W1.cell? x)->(∀x,W.frozen? x=W1.frozen? x)->∀ty Z,(Builtin.copy_ #[33,33] ty #[.slice (some ⟨b,off+i*2,none⟩) (n+1 - i) Z,.slice (some ⟨U,J,none⟩) 1 vc]).run f4 W=.ok (goInt 1) (W.setCells b (off+i*2) vs):=fun W b1 c2 ty Z =>
  fy W _ _ ty 108 2 b (off+i*2) 1 (n+1 - i) Z ⟨U,J,none⟩ 1 vc vs a1 b0 (by simp only[G3];split <;> omega) (by rw[a4])
   (fun j v O=>by rw[z8,b1,V,E2 b _ _ _ _ (fun h _=>absurd h b3)];exact b2 j v O)
   (fun j O=>by rw[a4] at O;rw[b1,p8];exact a2 _ (by omega)) (fun j O=>by rw[a4] at O;rw[c2,V,D8,p8];exact a5 _ (by omega)) c5
 have hE:Hid (W1=w.drew.setCells b (off+k*2) (cs.drop (i*2))):=V;rw[<- V] at a3;have e6:IntKind.i64.wrap ((n:Int)+1)=((n+1:Nat):Int):=by rw[A3];omega
 have d5:IntKind.i64.wrap ((i:Int)+1)=(k:Int):=by rw[A3];omega
 have e0:¬((n:Int)+1 > (c:Int)):=by omega
 have f0:¬(c=k):=by omega
 have f1:¬(c=i):=by omega
 have hin:i<=n:=by omega
 have d4:(k:Int)<=(n:Int)+1:=by omega
 have d2:(i:Int)<=(n:Int)+1:=by omega
 have d3:i<=n+1:=by omega
 clear a0 a5 b4 b2 a2 V a7 a8 a6 b5 hk Y;go_enter Tryz.func286,Tryz.ntmps286
 go_wp2_with (simp only[c6])
 go_region_law_o (refine step_copy_runI rfl _ _ 33 33 rfl _ _ (by simp[Act.eval,Act.put]) (by simp[Act.eval,Act.put]) (a3 _ _ _) ?_)
 go_wp2_with (at_builtin;refine wpList_copy_runI _ rfl _ _ 33 33 rfl _ _ rfl rfl (b6 _ (fun _=>rfl) (fun _=>rfl) _ _) ?_)
 go_ret
 exact⟨rfl,by rw[hE.out]⟩
theorem ins_end(base:Option Addr)(n c U J vc:Nat)(w w1:World)(O:Value)(a1:n<=c)(a0:c<=9223372036854775807)(hb:base=none->c=0)(V:∀ty,(Builtin.append_ #[33,33] ty #[.slice base n c,.slice (some ⟨U,J,none⟩) 1 vc]).run f4 w=.ok O w1) :
  Calls f4 286 #[.slice base n c,.int .i64 n,.slice (some ⟨U,J,none⟩) 1 vc] w fun e w'=>e=.returned O/\w'=w1:=by
 have Y:Tryz.prog.follows .mixedOrders=true:=by kernel_rfl
 cases base with
 | none =>
  have Z:=hb rfl;subst Z;obtain rfl:n=0:=by omega
  go_enter Tryz.func286,Tryz.ntmps286
  go_wp2_with (at_builtin;refine Lib.wpList_append_run _ rfl _ _ _ _ rfl _ _ rfl rfl _ _ (V _) ?_)
  all_goals (go_ret;exact⟨rfl,rfl⟩)
 | some a =>
  obtain⟨ab,ao,a2⟩:=a;go_enter Tryz.func286,Tryz.ntmps286
  go_wp2_with (at_builtin;refine Lib.wpList_append_run _ rfl _ _ _ _ rfl _ _ rfl rfl _ _ (V _) ?_)
  all_goals (go_ret;exact⟨rfl,rfl⟩)
theorem ins_grow(b off n i k vb a0 vc:Nat)(cs U:List Value)(w:World)(hk:k=i+1)(hi:i<n)(c4:(n+1)*16<=140737488355328)
  (c1:cs.length=n*2) (a7:U.length=2)
  (a4:∀j v,cs[j]?=some v->w.cell? ⟨b,off+j,none⟩=some v)
  (b3:∀j v,U[j]?=some v->w.cell? ⟨vb,a0+j,none⟩=some v) (d5:∀v∈cs,v.oneCell'=true) (e6:∀v∈U,v.oneCell'=true) :
  Calls f4 286 #[.slice (some ⟨b,off,none⟩) n n,.int .i64 i,.slice (some ⟨vb,a0,none⟩) 1 vc] w fun e w' =>
   e=.returned (.slice (some ⟨w.heap.size,0,none⟩) (n+1) (grownCap w (n+1) n 108)) /\
   w'=(((w.alloc (.cells ((cs.take (i*2)).toArray++Builtin.zeroCells zc.cells (n+1 - i)++Builtin.zeroCells zc.cells (grownCap w (n+1) n 108 - (n+1))) 108)).drew.setCells w.heap.size (i*2) U).drew).setCells w.heap.size (k*2) (cs.drop (i*2)):=by
 obtain⟨i0,c0,c5,b2,b4⟩:=info_parts info_cell;have f0:Tryz.prog.follows .mixedOrders=true:=by kernel_rfl
 have a5:=Tryz.underlying33;have u3:=Tryz.underlying3;have hz2:¬((i:Int)=(n:Int)):=by omega
 have b1:(Tryz.prog.info? 108).map (·.size)=some 2:=by rw[c0];simp[b2]
 have d3:b<w.heap.size:=block_lt_of_cell (a4 0 _ (g6 (by omega)));have c6:vb<w.heap.size:=block_lt_of_cell (b3 0 _ (g6 (by omega)));have b0:i+(n+1 - i)=n+1:=by omega
 have a8:(Builtin.firstCells i0.size i (.slice (some ⟨b,off,none⟩) i n)).run f4 w.drew=.ok (cs.take (i*2)).toArray w.drew:=by
  rw[b2];exact run_firstCells_some w.drew 2 i ⟨b,off,none⟩ i n (cs.take (i*2)) (by rw[s9];omega) (fun j v O=>by
   rw[z8];rw[s7] at O
   split at O
   ·exact a4 j v O
   ·cases O)
 have g3:IntKind.i64.wrap (((n+1:Nat):Int) - (i:Int))=((n+1 - i:Nat):Int):=by rw[A3];omega
 have a3:∀V,(Builtin.append_ #[33,3] V #[.slice (some ⟨b,off,none⟩) i n,.int .i64 ((n+1 - i:Nat):Int)]).run f4 w =
   .ok (.slice (some ⟨w.heap.size,0,none⟩) (n+1) (grownCap w (n+1) n 108)) (w.drew.alloc (.cells ((cs.take (i*2)).toArray++Builtin.zeroCells zc.cells (n+1 - i)++Builtin.zeroCells zc.cells (grownCap w (n+1) n 108 - (n+1))) 108)):=fun V=>by
  have h:=Lib.run_append_grow_zeros w 33 3 V 108 i0 zc .i64 .i64 a5 u3 c0 c5 (some ⟨b,off,none⟩) i n (cs.take (i*2)) a8 (n+1 - i) (by omega) (by omega) (by omega) (by omega) (by rw[b4];omega) (by rw[b4,b0];exact growslice_fits (by omega) c4);rw[b0] at h;exact h
 obtain⟨G,hG⟩:∃G,G=grownCap w (n+1) n 108:=⟨_,rfl⟩;obtain⟨J,a2⟩:∃J:Array Value,J=(cs.take (i*2)).toArray++Builtin.zeroCells zc.cells (n+1 - i)++Builtin.zeroCells zc.cells (G - (n+1)):=⟨_,rfl⟩;rw[<- hG] at a3 ⊢;rw[<- a2] at a3 ⊢;have d1:(n+1)*2<=J.size:=by rw[a2];simp[Builtin.zeroCells,Value.cells,c1];omega
 obtain⟨Y,Z⟩:∃Y,Y=w.drew.alloc (.cells J 108):=⟨_,rfl⟩;rw[<- Z] at a3;have hN:∀j,j<(n+1)*2->(Y.cell? ⟨w.heap.size,j,none⟩).isSome=true:=fun j O=>by rw[Z,N1 (w:=w.drew) J _ w.heap.size j rfl,n3 (by omega)];rfl
 have b6:∀j,Y.frozen? ⟨w.heap.size,j,none⟩=false:=fun j=>by rw[Z];exact L8 (w:=w.drew) J _ w.heap.size j rfl
 have d2:∀j v,w.cell? ⟨b,j,none⟩=some v->Y.cell? ⟨b,j,none⟩=some v:=fun j v h=>by rw[Z,F7 (w:=w.drew) _ b j d3];exact h
 have e0:∀j v,w.cell? ⟨vb,j,none⟩=some v->Y.cell? ⟨vb,j,none⟩=some v:=fun j v h=>by rw[Z,F7 (w:=w.drew) _ vb j c6];exact h
 have c3:∀(W:World),(∀x,W.cell? x=Y.cell? x)->(∀x,W.frozen? x=Y.frozen? x)->∀V dc,(Builtin.copy_ #[33,33] V #[.slice (some ⟨w.heap.size,i*2,none⟩) (n+1 - i) dc,.slice (some ⟨vb,a0,none⟩) 1 vc]).run f4 W=.ok (goInt 1) (W.setCells w.heap.size (i*2) U):=fun W a1 a6 V dc =>
  fy W _ _ V 108 2 w.heap.size (i*2) 1 (n+1 - i) dc ⟨vb,a0,none⟩ 1 vc U a5 b1 (by simp only[G3];split <;> omega) (by rw[a7])
   (fun j v O=>by rw[z8,a1];exact e0 _ v (b3 j v O))
   (fun j O=>by rw[a7] at O;rw[a1];exact hN _ (by omega)) (fun j O=>by rw[a6];exact b6 _) e6
 have h3:n+1<=G:=by rw[hG];exact grownCap_ge w _ _ _
 have f2:G<=9223372036854775807:=by have:=grownCap_le_maxLen w (n+1) n 108 (by unfold maxLen;omega);rw[<- hG] at this;unfold maxLen at this;omega
 have c9:b≠w.heap.size:=by omega
 have b5:(cs.drop (i*2)).length=(n - i)*2:=by rw[t5,c1,N0]
 have c2:∀(W:World),(∀x,W.cell? x=(Y.setCells w.heap.size (i*2) U).cell? x)->(∀x,W.frozen? x=(Y.setCells w.heap.size (i*2) U).frozen? x)->∀V dc sc,(Builtin.copy_ #[33,33] V #[.slice (some ⟨w.heap.size,k*2,none⟩) (n+1 - k) dc,.slice (some ⟨b,off+i*2,none⟩) (n - i) sc]).run f4 W=.ok (goInt ((n - i:Nat):Int)) (W.setCells w.heap.size (k*2) (cs.drop (i*2))):=fun W a1 a6 V dc sc =>
  fy W _ _ V 108 2 w.heap.size (k*2) (n - i) (n+1 - k) dc ⟨b,off+i*2,none⟩ (n - i) sc (cs.drop (i*2)) a5 b1 (by simp only[G3];split <;> omega) b5
   (fun j v O=>by rw[z8,a1,E2 _ _ _ _ _ (fun h _=>absurd h c9),p8];exact d2 _ v (a4 (i*2+j) v (by rwa [y0] at O)))
   (fun j O=>by rw[b5] at O;rw[a1];exact ir _ _ _ _ (fun t ht=>by rw[a7] at ht;exact hN _ (by omega)) _ (hN _ (by omega)))
   (fun j O=>by rw[a6,D8];exact b6 _) (fun v hv=>d5 v (B7 hv))
 subst Z;have c7:∀x,((w.alloc (.cells J 108)).drew).cell? x=(w.drew.alloc (.cells J 108)).cell? x:=fun x=>rfl
 have c8:∀x,((w.alloc (.cells J 108)).drew).frozen? x=(w.drew.alloc (.cells J 108)).frozen? x:=fun x=>rfl
 have d4:∀x,(((w.alloc (.cells J 108)).drew.setCells w.heap.size (i*2) U).drew).cell? x=((w.drew.alloc (.cells J 108)).setCells w.heap.size (i*2) U).cell? x:=fun x=>rfl
 have e7:∀x,(((w.alloc (.cells J 108)).drew.setCells w.heap.size (i*2) U).drew).frozen? x=((w.drew.alloc (.cells J 108)).setCells w.heap.size (i*2) U).frozen? x:=fun x=>rfl
 have h0:IntKind.i64.wrap ((n:Int)+1)=((n+1:Nat):Int):=by rw[A3];omega
 have g2:IntKind.i64.wrap ((i:Int)+1)=(k:Int):=by rw[A3];omega
 have h5:IntKind.i64.wrap ((n:Int)+1 - (i:Int))=((n+1 - i:Nat):Int):=by rw[A3];omega
 have g1:(n:Int)+1 - (i:Int)=((n+1 - i:Nat):Int):=by omega
 have h6:(n:Int)+1 > (n:Int):=by omega
 have h4:¬(n=i):=by omega
 have h7:¬(G=i):=by omega
 have h2:¬(G=k):=by omega
 have hin:i<=n:=by omega
 have f3:(i:Int)<=(n:Int):=by omega
 have f1:(k:Int)<=(n:Int)+1:=by omega
 have e9:(i:Int)<=(n:Int)+1:=by omega
 clear a8 a2 hG d1 b0 hk;go_enter Tryz.func286,Tryz.ntmps286
 go_wp2_with (first
  | (at_builtin;refine Lib.wpList_append_run _ rfl _ _ _ _ rfl _ _ rfl rfl _ _ (a3 _) ?_)
  | (at_builtin;refine wpList_copy_runI _ rfl _ _ 33 33 rfl _ _ rfl rfl (c3 _ c7 c8 _ _) ?_))
 go_region_law_o (refine step_copy_runI rfl _ _ 33 33 rfl (.slice (some ⟨w.heap.size,k*2,none⟩) (n+1 - k) (G - k)) (.slice (some ⟨b,off+i*2,none⟩) (n - i) (n - i)) (by simp[Act.eval,Act.put]) (by simp[Act.eval,Act.put]) (c2 _ d4 e7 3 (G - k) (n - i)) ?_)
 go_wp2
 go_ret
 exact⟨rfl,rfl⟩
end Go.Proofs.YtpdfmcmnjikppaaGreat.H
namespace Go.Proofs.YtpdfmcmnjikppaaGreat
set_option maxRecDepth 100000
set_option maxHeartbeats 4000000
open Go.RowKit Go.Lib
theorem bA(b:Nat)(e:TypeId)(V:Nat × Nat):∀(Y:List Value) (o:Nat) (w:World) (J:Array Value),w.heap[b]?=some (.cells J e V)->o+Y.length<=J.size ->
  ∃O:Array Value,(w.setCells b o Y).heap[b]?=some (.cells O e V)/\O.size=J.size/\(∀k,k<o\/o+Y.length<=k->O[k]?=J[k]?)/\(∀j v,Y[j]?=some v->O[o+j]?=some v)
 | [],o,w,J,h,_=>⟨J,h,rfl,fun _ _=>rfl,fun j v U=>by simp at U⟩
 | v::r,o,w,J,h,hl=>by
  have a0:o+(r.length+1)<=J.size:=hl;have h1:(w.setCell ⟨b,o,none⟩ v).heap[b]?=some (.cells (J.setIfInBounds o v) e V):=by simp[World.setCell,M1,h]
  obtain⟨O,k1,k2,Z,k4⟩:=bA b e V r (o+1) _ _ h1 (by simp;omega);refine⟨O,k1,by rw[k2];simp,fun k hk=>?_,fun j u U=>?_⟩
  ·have hk:k<o\/o+(r.length+1)<=k:=hk;rw[Z k (by omega),E0,i7 (by omega)]
  ·cases j with
   | zero =>simp only[n5,b7] at U;subst U;rw[D4,Z o (.inl (by omega)),E0,j8 rfl,j8 (by omega)]
   | succ j =>
    have:=k4 j u (by simpa using U)
    rwa [show o+(j+1)=o+1+j from by omega]
theorem bu(b:Nat):∀(J:List Value) (o:Nat) (w:World),(w.setCells b o J).os=w.os/\(w.setCells b o J).tape=w.tape/\(w.setCells b o J).output=w.output/\(w.setCells b o J).heap.size=w.heap.size/\∀k,k≠b->(w.setCells b o J).heap[k]?=w.heap[k]?
 | [],o,w=>⟨rfl,rfl,rfl,rfl,fun _ _=>rfl⟩
 | v::r,o,w=>by obtain⟨h1,O,Y,U,V⟩:=bu b r (o+1) (w.setCell ⟨b,o,none⟩ v);refine⟨h1,O,Y,U.trans (by simp[World.setCell]),fun k hk=>(V k hk).trans ?_⟩;simp only[World.setCell,M1];rw[i7 (by simpa using Ne.symm hk)]
abbrev dZ:List S:= [.int .i64,.int .i64]
theorem ja:bk f4 108=some dZ:=by kernel_rfl
def bh(rows:List b8):List Value:=rows.flatMap fun r => [.int .i64 (r 0).int,.int .i64 (r 1).int]
theorem eE:∀rows,(bh rows).length=rows.length*2
 | []=>rfl
 | r::rs=>by have:=eE rs;simp only[bh,F2,i5,C2,F0] at *;omega
theorem qi(r:b8)(rs:List b8):bh (r::rs)=.int .i64 (r 0).int::.int .i64 (r 1).int::bh rs:=rfl
theorem oT:∀(rows:List b8) (i:Nat),i<rows.length->(bh rows)[i*2]?=some (.int .i64 (rows.getD i [] 0).int)/\(bh rows)[i*2+1]?=some (.int .i64 (rows.getD i [] 1).int)
 | [],i,h=>by simp at h
 | r::rs,0,_=>⟨rfl,rfl⟩
 | r::rs,i+1,h=>by have:=oT rs i (by simpa using h);rw[qi,show (i+1)*2=i*2+1+1 from by omega];exact this
theorem Bt{F:Nat->Value->Prop}{rows:List b8}(h:∀i,i<rows.length->F (i*2) (.int .i64 (rows.getD i [] 0).int)/\F (i*2+1) (.int .i64 (rows.getD i [] 1).int)){k:Nat}{v:Value}(hk:(bh rows)[k]?=some v):F k v:=by
 have O:=(g5.1 hk).1;rw[eE] at O;have hi:k / 2<rows.length:=by omega
 obtain⟨h1,J⟩:=oT rows (k / 2) hi;obtain⟨U,V⟩:=h (k / 2) hi;rcases Nat.mod_two_eq_zero_or_one k with hm | hm
 ·have e:k / 2*2=k:=by omega
  rw[e] at h1 U;rw[hk] at h1;injection h1 with h1;rw[h1];exact U
 ·have e:k / 2*2+1=k:=by omega
  rw[e] at J V;rw[hk] at J;injection J with J;rw[J];exact V
theorem ju(rows:List b8):∀v∈bh rows,v.oneCell'=true:=fun v hv=>by obtain⟨k,hk⟩:=E7 hv;exact Bt (F:=fun _ v=>v.oneCell'=true) (fun i _=>⟨rfl,rfl⟩) hk
theorem adR{w:World}{rows:List b8}{b cap:Nat}{J:Array Value}(Y:w.heap[b]?=some (.cells J 108 (0,0)))(hs:J.size=cap*2)(U:rows.length<=cap)(O:cap<=9223372036854775807)
  (Z:∀i,i<rows.length->J[i*2]?=some (.int .i64 (rows.getD i [] 0).int)/\J[i*2+1]?=some (.int .i64 (rows.getD i [] 1).int)):dg w 108 dZ rows (.slice (some ⟨b,0,none⟩) rows.length cap) (some b):=by
 refine .inr ⟨b,cap,J,rfl,rfl,U,O,Y,hs,fun i j s hi hs=>?_⟩;obtain⟨h1,V⟩:=Z i hi
 match j,hs with
 | 0,hs=>injection hs with hs;subst hs;exact⟨_,h1,rfl⟩
 | 1,hs=>injection hs with hs;subst hs;exact⟨_,V,rfl⟩
theorem ajD{w:World}{rows:List b8}{u:Value}{B:Option Nat}(h:dg w 108 dZ rows u B):(B=none/\rows = []/\∃A,u=.slice A 0 0) \/
  ∃(b cap:Nat) (J:Array Value),B=some b/\u=.slice (some ⟨b,0,none⟩) rows.length cap/\rows.length<=cap/\cap<=9223372036854775807/\w.heap[b]?=some (.cells J 108 (0,0))/\J.size=cap*2 /\
   ∀i,i<rows.length->J[i*2]?=some (.int .i64 (rows.getD i [] 0).int)/\J[i*2+1]?=some (.int .i64 (rows.getD i [] 1).int):=by
 rcases h with h | ⟨b,cap,J,h1,h2,h3,h4,h5,h6,h7⟩
 ·exact .inl h
 ·refine .inr ⟨b,cap,J,h1,h2,h3,h4,h5,h6,fun i hi=>?_⟩;obtain⟨Z,O,V⟩:=h7 i 0 (.int .i64) hi rfl;obtain⟨u1,U,Y⟩:=h7 i 1 (.int .i64) hi rfl;rw[V] at O;rw[Y] at U;exact⟨O,U⟩
theorem Xq{w:World}{prot:Nat->Nat}{x:D}{v:Value}(h:VD f4 w prot (.sl 108) x v):∃A c,v=.slice A x.rows.length c/\x.rows.length<=c/\c<=9223372036854775807 /\
  (0<x.rows.length->∃b o,A=some ⟨b,o,none⟩)/\∀b o,A=some ⟨b,o,none⟩->∀k v,(bh x.rows)[k]?=some v->w.cell? ⟨b,o+k,none⟩=some v/\o+k<prot b:=by
 cases h with
 | sl e d A c row u O h1 Z V h4 =>
  rw[ja] at O;injection O with O
  subst O;refine⟨A,c,rfl,h1,Z,fun h0=>?_,fun b o J k v hk=>?_⟩
  ·obtain⟨b,o,J,_⟩:=V 0 0 h0 (by decide);exact⟨b,o,J⟩
  ·subst J;have U:∀i j,i<x.rows.length->j<2->∃v,w.cell? ⟨b,o+(i*2+j),none⟩=some v/\o+(i*2+j)<prot b/\v=.int .i64 (x i j).int:=fun i j hi Y=>by obtain⟨b',o',J,hc,hp⟩:=V i j hi Y;injection J with J;injection J with e1 e2 _;subst e1;subst e2;have hv:=h4 i j (.int .i64) hi (by match j,Y with | 0,_=>rfl | 1,_=>rfl);generalize u i j=z at *;cases hv;exact⟨_,hc,hp,rfl⟩
   refine Bt (F:=fun k v=>w.cell? ⟨b,o+k,none⟩=some v/\o+k<prot b) (fun i hi=>?_) hk;obtain⟨v0,q1,q2,rfl⟩:=U i 0 hi (by decide);obtain⟨v1,q3,q4,rfl⟩:=U i 1 hi (by decide);exact⟨⟨by simpa using q1,by simpa using q2⟩,q3,q4⟩
theorem XJ(a:Addr)(n c:Nat)(J:List Value)(w:World)(hl:J.length=n*2)(hn:n<=1000000)(hc:∀j u,J[j]?=some u->w.cell? (a.add j)=some u)(h1:∀u∈J,u.oneCell'=true) :
  Calls f4 192 #[.slice (some a) n c] w fun e w'=>∃O,e=.returned O/\w'.ownsRow w.heap.size 108 2 O n J/\Below w.heap.size w w':=by
 obtain⟨i0,a2,a0,a1,a3⟩:=info_parts H.info_cell;have a4:Tryz.prog.follows .mixedOrders=true:=by kernel_rfl
 have a6:∀(w:World) (a:Option Addr) (n c V Z:Nat),(binOp .eql 33 (.slice a n c) (.slice none V Z)).run f4 w=.ok (.bool a.isNone) w:=fun w a n c V Z=>Lib.run_eql_slice_nil w _ _ a n c V Z Tryz.underlying33
 have A:Aside (∀j u,J[j]?=some u->w.cell? (a.add j)=some u):=hc;clear hc;go_enter Tryz.func192,Tryz.ntmps192
 go_wp2_with (at_builtin;refine wpList_append_own _ rfl _ _ 33 rfl w.heap.size 108 i0 H.zc 2 16 Tryz.underlying33 a2 a0 a1 a3 rfl (by decide) _ _ _ rfl (L0 w #[] 0 (g8 _) (y5 _) (by simp)) a n c J rfl ?qc1 ?qc2 ?qc3 ?qc4 ?qc5 ?qc6 ?_)
 case qc1=>exact hl
 case qc2 =>intro j u hj;exact Lib.cell?_alloc_some _ (A.out j u hj)
 case qc3=>exact h1
 case qc4=>rw[i9];unfold maxLen;omega
 case qc5=>rw[i9];omega
 case qc6=>simp
 intro O w1 Y U a5;go_wp2
 go_ret
 refine⟨O,rfl,by simpa using Y,?_⟩;exact ((Below.refl _ w).alloc (g8 _) _).grown U (by simp) (by intro k hk;simp[Value.ownBlock] at hk;omega)
theorem acj(n c:Nat)(w:World) :
  Calls f4 192 #[.slice none n c] w fun e w'=>e=.returned (.slice none 0 0)/\w'=w:=by
 have U:Tryz.prog.follows .mixedOrders=true:=by kernel_rfl
 have V:∀(w:World) (a:Option Addr) (n c J O:Nat),(binOp .eql 33 (.slice a n c) (.slice none J O)).run f4 w=.ok (.bool a.isNone) w:=fun w a n c J O=>Lib.run_eql_slice_nil w _ _ a n c J O Tryz.underlying33
 go_enter Tryz.func192,Tryz.ntmps192;go_wp2
 go_ret
 exact⟨rfl,rfl⟩
theorem Qg{prot:Nat->Nat}{w w':World}{x:D}{v:Value}(J:∀b,w.heap.size<=b->prot b=0)(U:Below w.heap.size w w')(Z:w'.ownsRow w.heap.size 108 2 v x.rows.length (bh x.rows)) :
  ∃g',Res f4 prot w w' ⟨.one (.c (.own (0,0) true 108)),[x]⟩ v g':=by
 obtain⟨hl,⟨rfl,h0⟩ | ⟨blk,cap,cur,rfl,hblk,hh,hcap,hmax,hsz,htk⟩⟩:=Z
 ·exact⟨g0 0 prot,U,⟨dZ,ja,.inl ⟨t6 h0,rfl,none,rfl⟩⟩,fun _ _=>rfl,fun b O=>⟨J b (o8 U.size O),rfl⟩⟩
 ·refine⟨⟨prot,fun b=>if b=blk then some (.inr (0,0)) else none,fun _=>0,fun _=>blk,fun _=>x.rows.length,fun _=>2,fun _=>108,fun _ => [],fun _=>0,fun _=>False⟩,U,⟨dZ,ja,.inr ⟨cap,cur,108,rfl,hcap,⟨by unfold maxLen at hmax;omega,rfl,rfl⟩,hblk,j8 rfl,hh,hsz,rfl,rfl,?_,?_⟩⟩,fun _ _=>rfl,fun b O=>⟨J b (o8 U.size O),?_⟩⟩
  ·show prot blk=0;exact J blk hblk
  ·intro i j s hi hs;have hi:i<x.rows.length:=hi;obtain⟨V,Y⟩:=oT x.rows i hi;rw[<- htk,s7,j8 (by omega)] at V Y
   match j,hs with
   | 0,hs =>
    injection hs with hs
    subst hs;exact⟨.int .i64 (x i 0).int,by simpa using V,.of_vd (.int .i64 _) (.inr rfl)⟩
   | 1,hs =>
    injection hs with hs
    subst hs;exact⟨.int .i64 (x i 1).int,by simpa using Y,.of_vd (.int .i64 _) (.inr rfl)⟩
  ·have:=aT hh;exact i7 (by omega)
def vR:Ent:=(192,e1 (sd (.sl 108)) fun p=>(⟨.one (.c (.own (0,0) true 108)),[.l (p 0).rows]⟩,leI (p 0) 1000000))
theorem tU:aw f4 vR:=ck fun p h=>by
 have h:leI (p 0) 1000000=true:=h;simp only[leI,f7] at h;refine aQ.of rfl ⟨cN Tryz.func192 (by kernel_rfl) (by kernel_rfl),fun w prot vs O V=>?_⟩;obtain⟨u,hu,hv⟩:=O.2 0 _ rfl;have a1:vs = #[u]:=by
  have hs:vs.size=1:=O.1;refine Array.ext (by simpa using hs) fun i h1 h2=>?_
  have:i=0:=by omega
  subst this;rw[n3 h1] at hu;injection hu
 subst a1;have hv:VD f4 w prot (.sl 108) (p 0) u:=hv;generalize p 0=x at *;obtain⟨A,c,rfl,h1,h2,h3,h4⟩:=Xq hv;cases A with
 | none =>
  have h0:x.rows.length=0:=by
   rcases C4 x.rows.length with h' | h'
   ·exact h'
   ·obtain⟨b,o,U⟩:=h3 h';cases U
  have a2:x.rows = []:=t6 h0;refine (acj x.rows.length c w).mono ?_;rintro ex w' ⟨rfl,rfl⟩;obtain⟨g',J⟩:=Qg (x:=x) (prot:=prot) (w:=w') (w':=w') V (Below.refl _ _) (v:=.slice none 0 0) ⟨eE _,.inl ⟨rfl,h0⟩⟩;exact⟨_,g',rfl,J.below,J.val,J.prot,J.fresh⟩
 | some ad =>
  refine (XJ ad x.rows.length c (bh x.rows) w (eE _) (by omega) (fun j u hj=>?_) (ju _)).mono ?_
  ·have Z:0<x.rows.length:=by have:=(g5.1 hj).1;rw[eE] at this;omega
   obtain⟨b,o,U⟩:=h3 Z;injection U with U;subst U;rw[z8];exact (h4 b o rfl j u hj).1
  ·rintro ex w' ⟨v',rfl,Y,a0⟩;obtain⟨g',J⟩:=Qg (x:=x) (prot:=prot) V a0 Y;exact⟨_,g',rfl,J.below,J.val,J.prot,J.fresh⟩
theorem pL(a b:List b8):bh (a++b)=bh a++bh b:=by simp[bh]
theorem vn:∀(rows:List b8) (i:Nat),bh (rows.take i)=(bh rows).take (i*2)
 | [],i=>by simp[bh]
 | r::rs,0=>by simp[bh]
 | r::rs,i+1=>by rw[E4,qi,qi,vn rs i,show (i+1)*2=i*2+1+1 from by omega,E4,E4]
theorem wA:∀(rows:List b8) (i:Nat),bh (rows.drop i)=(bh rows).drop (i*2)
 | [],i=>by simp[bh]
 | r::rs,0=>by simp[bh]
 | r::rs,i+1=>by rw[K5,qi,wA rs i,show (i+1)*2=i*2+1+1 from by omega,K5,K5]
theorem DQ{w:World}{rows:List b8}{b cap n:Nat}{J:Array Value}(Y:w.heap[b]?=some (.cells J 108 (0,0)))(hn:n=rows.length)(hs:J.size=cap*2)(U:rows.length<=cap)(O:cap<=9223372036854775807)
  (V:∀(k:Nat) v,(bh rows)[k]?=some v->J[k]?=some v):dg w 108 dZ rows (.slice (some ⟨b,0,none⟩) n cap) (some b):=by
 subst hn;exact adR Y hs U O fun i hi=>⟨V _ _ (oT rows i hi).1,V _ _ (oT rows i hi).2⟩
theorem EE{w:World}{rows:List b8}{u:Value}{B:Option Nat}(h:dg w 108 dZ rows u B):(B=none/\rows = []/\∃A,u=.slice A 0 0) \/
  ∃(b cap:Nat) (J:Array Value),B=some b/\u=.slice (some ⟨b,0,none⟩) rows.length cap/\rows.length<=cap/\cap<=9223372036854775807/\w.heap[b]?=some (.cells J 108 (0,0))/\J.size=cap*2 /\
   ∀(k:Nat) v,(bh rows)[k]?=some v->J[k]?=some v:=by
 rcases ajD h with h | ⟨b,cap,J,h1,h2,h3,h4,h5,h6,h7⟩
 ·exact .inl h
 ·exact .inr ⟨b,cap,J,h1,h2,h3,h4,h5,h6,fun k v hk=>Bt (F:=fun k v=>J[k]?=some v) h7 hk⟩
theorem tM{P:Program}{w:World}{prot:Nat->Nat}{k:IntKind}{x:D}{v:Value}(h:VD P w prot (.int k) x v):v=.int k x.int:=by cases h;rfl
theorem ml{P:Program}{prot:Nat->Nat}{w:World}{args:List T}{J:Array Value}(h:ka P prot w args J)(us:List Value)(O:us.length=args.length)(U:∀(j:Nat) t u,args[j]?=some t->J[j]?=some u->us[j]?=some u):J=us.toArray:=by
 refine Array.ext (by simp[h.1,O]) fun i h1 V=>?_
 have hi:i<args.length:=by rw[<- h.1];exact h1
 have:=U i _ _ (g6 hi) (n3 h1);rw[g6 (by omega)] at this;simp only[b7] at this;simpa using this.symm
theorem aiV{P:Program}{prot:Nat->Nat}{w:World}{q r:b8}{U:Array Value}(h:ka P prot w [⟨ri,q⟩,⟨ri,r⟩] U):U = #[.int .i64 (q 0).int,.int .i64 (r 0).int]:=by
 refine ml h [.int .i64 (q 0).int,.int .i64 (r 0).int] rfl fun j t u h1 V=>?_
 obtain⟨Y,J,O⟩:=h.2 j t h1;rw[V] at J;injection J with J;subst J
 match j,h1 with
 | 0,h1 =>
  injection h1 with h1;subst h1
  have:=tM (k:=.i64) (show VD P w prot (.int .i64) (q 0) u from O);rw[this];rfl
 | 1,h1 =>
  injection h1 with h1;subst h1
  have:=tM (k:=.i64) (show VD P w prot (.int .i64) (r 0) u from O);rw[this];rfl
theorem dx{w:World}{b:Nat}{J:Array Value}{e:TypeId}{O:Nat × Nat}(h:w.heap[b]?=some (.cells J e O))(k:Nat):w.cell? ⟨b,k,none⟩=J[k]?:=by simp[World.cell?,h]
theorem gL{w:World}{b:Nat}{J:Array Value}{e:TypeId}(h:w.heap[b]?=some (.cells J e (0,0)))(k:Nat):w.frozen? ⟨b,k,none⟩=false:=by simp[World.frozen?,h]
def mg(rows:List b8)(i:Nat):List b8:=rows.take i++rows.drop (i+1)
def abJ:Ent:=(285,e3 (sd (.sl 108)) ri ri fun p q r=>(⟨.tup [.agg [.any]],[.l (mg (p 0).rows (q 0).int.toNat)]⟩,leI (p 0) 1000000&&al (q 0).int (p 0).rows.length&&((r 0).int==(q 0).int+1)))
theorem aca:aw f4 abJ:=em fun p q r h=>by
 have h:(leI (p 0) 1000000&&al (q 0).int (p 0).rows.length&&((r 0).int==(q 0).int+1))=true:=h;simp only[a9,leI,f7,p6] at h;obtain⟨⟨h1,h2⟩,h3⟩:=h;obtain⟨c7,Y⟩:0<=(q 0).int/\(q 0).int<(p 0:Int):=by simpa [al] using h2
 refine aQ.ofK rfl ⟨cN Tryz.func285 (by kernel_rfl) (by kernel_rfl),fun e x rest row J O b6 w prot u B vs hO hB c6 V c8=>?_⟩;injection J with J hre
 injection J with J hp
 injection J with J
 injection J with J
 injection J with J
 injection J with J
 subst J hp hre;rw[ja] at O;injection O with O
 subst O;have a6:=aiV (V w (aI.refl w B));subst a6;have h1:(x:Int)<=1000000:=h1;have Y:(q 0).int<(x:Int):=Y;obtain⟨i,hi⟩:∃i:Nat,(q 0).int=i:=⟨(q 0).int.toNat,by omega⟩;obtain⟨n,hn⟩:∃n,n=x.rows.length:=⟨_,rfl⟩;have hin:i<n:=by omega
 have a0:(gd [D.l (mg x.rows (q 0).int.toNat)] 0).rows=mg x.rows i:=by rw[hi];rfl
 show Calls _ _ _ w fun ex w'=>∃v' B',ex=.returned v'/\aI w w' B/\dg w' _ _ (gd [D.l (mg x.rows (q 0).int.toNat)] 0).rows v' B'/\_
 rw[a0];rcases EE hO with⟨_,h0,_⟩ | ⟨b,cap,arr,rfl,rfl,hle,h63,hh,hs,hc⟩
 ·rw[h0] at hn;simp at hn;omega
 ·rw[<- hn] at hle ⊢;have U:(bh x.rows).length=n*2:=by rw[eE,hn]
  have:=H.del_cell b 0 n cap i (i+1) (bh x.rows) w rfl hin hle h63 U (fun j v hj=>by rw[i9,dx hh];exact hc j v hj) (fun j _=>gL hh _) (ju _);rw[show (#[Value.slice (some ⟨b,0,none⟩) n cap] ++ #[.int .i64 (q 0).int,.int .i64 (r 0).int]:Array Value) = #[.slice (some ⟨b,0,none⟩) n cap,.int .i64 i,.int .i64 ((i+1:Nat):Int)] from by rw[hi,h3,hi];rfl];refine this.mono ?_;rintro ex w' ⟨rfl,rfl⟩;have b5:((bh x.rows).drop ((i+1)*2)).length=(n - (i+1))*2:=by rw[t5,U];omega
  obtain⟨a5,a1,a2,a3,a4⟩:=bA b 108 (0,0) ((bh x.rows).drop ((i+1)*2)) (0+i*2) w.drew arr hh (by rw[b5,hs];omega);have hz:H.zc.cells.toList.length=2:=rfl;obtain⟨c0,b1,b2,b3,b4⟩:=bA b 108 (0,0) H.zc.cells.toList (0+(n - 1)*2) _ a5 a1 (by rw[hz,a2,hs];omega);obtain⟨c1,c2,c3,c4,c5⟩:=bu b ((bh x.rows).drop ((i+1)*2)) (0+i*2) w.drew;obtain⟨d1,d2,d3,d4,d5⟩:=bu b H.zc.cells.toList (0+(n - 1)*2) (w.drew.setCells b (0+i*2) ((bh x.rows).drop ((i+1)*2)));have Z:(mg x.rows i).length=n - 1:=by simp[mg];omega
  refine⟨_,some b,rfl,⟨d1.trans c1,d2.trans c2,d3.trans c3,C5 (d4.trans c4).symm,fun k _ hk=>(d5 k (fun e=>hk (by rw[e]))).trans (c5 k (fun e=>hk (by rw[e])))⟩,?_,fun b hb=>.inl hb⟩;refine DQ b1 Z.symm (by rw[b2,a2,hs]) (by omega) h63 fun k v hk=>?_
  have a8:=(g5.1 hk).1;rw[eE,Z] at a8;rw[b3 k (.inl (by omega))];unfold mg at hk;rw[pL,vn,wA,w9] at hk;have b0:((bh x.rows).take (i*2)).length=i*2:=by rw[s9,U];omega
  rw[b0] at hk
  split at hk
  ·rename_i a7;rw[a3 k (.inl (by omega))];rw[s7,j8 a7] at hk;exact hc k v hk
  ·have:=a4 (k - i*2) v hk
   rwa [show 0+i*2+(k - i*2)=k from by omega] at this
theorem ajz{prot:Nat->Nat}{w:World}{q r:b8}{U:Array Value}(h:ka f4 prot w [⟨ri,q⟩,⟨sd (.sl 108),r⟩] U):∃u,U = #[.int .i64 (q 0).int,u]/\VD f4 w prot (.sl 108) (r 0) u:=by
 obtain⟨u,O,hv⟩:=h.2 1 _ rfl;refine⟨u,?_,hv⟩;refine ml h [.int .i64 (q 0).int,u] rfl fun j t Z h1 V=>?_
 match j,h1 with
 | 0,h1 =>
  injection h1 with h1;subst h1
  obtain⟨a0,J,Y⟩:=h.2 0 _ rfl;rw[V] at J;injection J with J;subst J;have:=tM (k:=.i64) (show VD f4 w prot (.int .i64) (q 0) Z from Y);rw[this];rfl
 | 1,h1 =>
  rw[V] at O;injection O with O;subst O
  rfl
theorem ajI{w:World}{rows:List b8}{r:b8}{base:Option Addr}{n c:Nat}{B:Option Nat}(hO:dg w 108 dZ rows (.slice base n c) B)(Z J vc:Nat)(hn:rows.length<=1000000)
  (hv:∀(k:Nat) v,(bh [r])[k]?=some v->w.cell? ⟨Z,J+k,none⟩=some v) :
  ∃v' w1 B',(∀Y,(Builtin.append_ #[33,33] Y #[.slice base n c,.slice (some ⟨Z,J,none⟩) 1 vc]).run f4 w=.ok v' w1)/\aI w w1 B/\dg w1 108 dZ (rows ++ [r]) v' B'/\∀b,B'=some b->B=some b\/w.heap.size<=b:=by
 obtain⟨i0,a1,a5,V,a3⟩:=info_parts H.info_cell;have a0:(bh [r]).length=1*i0.size:=by rw[V];rfl
 have O:∀(j:Nat) v,(bh [r])[j]?=some v->w.cell? ((⟨Z,J,none⟩:Addr).add j)=some v:=fun j v hj=>by rw[z8];exact hv j v hj
 have b1:H.zc.cells.size=2:=rfl
 -- a new block
 have a6:∀(old:Nat),(w.drew.alloc (.cells ((bh rows).toArray++(bh [r]).toArray++Builtin.zeroCells H.zc.cells (grownCap w (rows.length+1) old 108 - (rows.length+1))) 108)).heap.size=w.heap.size+1 /\
   aI w (w.drew.alloc (.cells ((bh rows).toArray++(bh [r]).toArray++Builtin.zeroCells H.zc.cells (grownCap w (rows.length+1) old 108 - (rows.length+1))) 108)) B /\
   dg (w.drew.alloc (.cells ((bh rows).toArray++(bh [r]).toArray++Builtin.zeroCells H.zc.cells (grownCap w (rows.length+1) old 108 - (rows.length+1))) 108)) 108 dZ (rows ++ [r]) (.slice (some ⟨w.heap.size,0,none⟩) (rows.length+1) (grownCap w (rows.length+1) old 108)) (some w.heap.size):=by
  intro old;have a4:=grownCap_ge w (rows.length+1) old 108;have b0:=grownCap_le_maxLen w (rows.length+1) old 108 (by unfold maxLen;omega);refine⟨by simp[World.alloc],⟨rfl,rfl,rfl,by simp[World.alloc],fun k hk _=>Below.heap_alloc w.drew _ k hk⟩,DQ (by letI:Low:=yO;exact fw w.drew _) (by simp) ?_ (by simpa using a4) (by unfold maxLen at b0;omega) fun k v hk=>?_⟩
  ·simp only[A9,z6,eE,size_zeroCells,b1,C2,F0];omega
  ·rw[pL] at hk;have b2:=(g5.1 hk).1;rw[r9 (by simpa using b2)];simpa using hk
 have b6:B=none->rows = []/\n=0/\c=0:=by
  rintro rfl;rcases hO with⟨_,h0,A,hA⟩ | ⟨_,_,_,U,_⟩
  ·injection hA with _ e1 e2;exact⟨h0,e1,e2⟩
  ·cases U
 rcases EE hO with⟨rfl,rfl,A,hA⟩ | ⟨b,cap,arr,rfl,hA,hle,h63,hh,hs,hc⟩
 ·injection hA with e0 e1 e2
  subst e0 e1 e2;obtain⟨_,q2,q3⟩:=a6 0;refine⟨_,_,some w.heap.size,fun Y=>?_,q2,q3,fun b U=>.inr (by injection U with U;omega)⟩;cases base with
  | none =>have:=run_append_nil (P:=f4) w 33 Y 108 i0 H.zc Tryz.underlying33 a1 a5 ⟨Z,J,none⟩ 1 vc (bh [r]) a0 O (by omega) (by omega) (by rw[a3];omega);rw[this];simp[bh]
  | some a =>have:=run_append_grow (P:=f4) w 33 Y 108 i0 H.zc Tryz.underlying33 a1 a5 a 0 0 [] (by simp) (fun j v hj=>by simp at hj) ⟨Z,J,none⟩ 1 vc (bh [r]) a0 O (by omega) (by omega) (by rw[a3];exact growslice_fits (by omega) (by omega));rw[this];rfl
 ·injection hA with e0 e1 e2
  subst e0 e1 e2;by_cases a2:rows.length+1<=c
  ·have a8:rows.length*i0.size+(bh [r]).length<=arr.size:=by rw[V,hs];show _+2<=_;omega
   have b5:(bh [r]).length=2:=rfl;have b4:(bh rows).length=rows.length*2:=eE rows;refine⟨_,_,some b,fun Y=>run_append_room (P:=f4) w 33 Y 108 i0 Tryz.underlying33 a1 b rows.length c arr hh ⟨Z,J,none⟩ 1 vc (bh [r]) a0 O (ju _) a2 a8,⟨rfl,rfl,rfl,by simp,fun k _ hk=>setRow_other w b k _ (fun e=>hk (by rw[e]))⟩,?_,fun b U=>.inl U⟩;refine DQ (setRow_heap w b arr _ _ _ hh) (by simp) ?_ (by simpa using a2) h63 fun k v hk=>?_
   ·simp only[z6,i5,s9,t5,E6,b5,V];omega
   ·rw[pL,w9] at hk;rw[F3,z7,w9,V];have b3:(arr.toList.take (rows.length*2)).length=rows.length*2:=by have e0:arr.toList.length=arr.size:=E6;rw[s9,e0,hs];omega
    rw[b3];rw[b4] at hk
    split at hk
    ·rename_i a7;rw[j8 a7,s7,j8 a7,M2];exact hc k v (by exact hk)
    ·rename_i a4;rw[i7 a4,v9 (g5.1 hk).1];exact hk
  ·obtain⟨_,q2,q3⟩:=a6 c;refine⟨_,_,some w.heap.size,fun Y=>?_,q2,q3,fun b U=>.inr (by injection U with U;omega)⟩;exact run_append_grow (P:=f4) w 33 Y 108 i0 H.zc Tryz.underlying33 a1 a5 ⟨b,0,none⟩ rows.length c (bh rows) (by rw[eE,V]) (fun j v hj=>by rw[z8,i9,dx hh];exact hc j v hj) ⟨Z,J,none⟩ 1 vc (bh [r]) a0 O (by omega) (by omega) (by rw[a3];exact growslice_fits (by omega) (by omega))
def dt(rows:List b8)(i:Nat)(r:b8):List b8:=rows.take i++r::rows.drop i
theorem Ny(rows:List b8)(i:Nat)(r:b8)(hi:i<=rows.length){k:Nat}{v:Value}(hk:(bh (dt rows i r))[k]?=some v) :
  (k<i*2/\(bh rows)[k]?=some v)\/(i*2<=k/\k<(i+1)*2/\(bh [r])[k - i*2]?=some v)\/((i+1)*2<=k/\((bh rows).drop (i*2))[k - (i+1)*2]?=some v):=by
 have U:((bh rows).take (i*2)).length=i*2:=by rw[s9,eE];omega
 unfold dt at hk;rw[pL,vn,show r::rows.drop i = [r]++rows.drop i from rfl,pL,wA,w9,U] at hk
 split at hk
 ·rename_i J;rw[s7,j8 J] at hk;exact .inl ⟨J,hk⟩
 ·rename_i V;rw[w9] at hk
  split at hk
  ·rename_i J;have J:k - i*2<2:=J;exact .inr (.inl ⟨by omega,by omega,hk⟩)
  ·rename_i O;have O:¬k - i*2<2:=O;refine .inr (.inr ⟨by omega,?_⟩);rw[show k - (i+1)*2=k - i*2 - (bh [r]).length from by show _=_ - 2;omega];exact hk
def aaz:Ent:=(286,e3 (sd (.sl 108)) ri (sd (.sl 108)) fun p q r=>(⟨.tup [.agg [.kb true]],[.l (dt (p 0).rows (q 0).int.toNat ((r 0).rows.getD 0 []))]⟩,leI (p 0) 1000000&&leI 0 (q 0).int&&leI (q 0).int (p 0:Int)&&((r 0).rows.length==1)))
theorem abX:aw f4 aaz:=em fun p q r h=>by
 have h:(leI (p 0) 1000000&&leI 0 (q 0).int&&leI (q 0).int (p 0:Int)&&((r 0).rows.length==1))=true:=h;simp only[a9,leI,f7,p6] at h;obtain⟨⟨⟨h1,k5⟩,f1⟩,h3⟩:=h;refine aQ.ofK rfl ⟨cN Tryz.func286 (by kernel_rfl) (by kernel_rfl),fun e x rest row O Y i2 w prot u B vs hO hB k0 e9 e0=>?_⟩;injection O with O hre
 injection O with O hp
 injection O with O
 injection O with O
 injection O with O
 injection O with O
 subst O hp hre;rw[ja] at Y;injection Y with Y
 subst Y;obtain⟨uv,rfl,hv⟩:=ajz (e9 w (aI.refl w B));have h1:(x:Int)<=1000000:=h1;have f1:(q 0).int<=(x:Int):=f1;obtain⟨r0,b0⟩:∃r0,(r 0).rows = [r0]:=List.length_eq_one_iff.1 h3;obtain⟨VA,vc,rfl,_,i3,g3,a5⟩:=Xq hv;rw[b0] at g3 a5;obtain⟨U,vo,rfl⟩:=g3 (by simp);have a5:=a5 U vo rfl;obtain⟨i,hi⟩:∃i:Nat,(q 0).int=i:=⟨(q 0).int.toNat,by omega⟩;have h2:(gd [D.l (dt x.rows (q 0).int.toNat (r 0 0))] 0).rows=dt x.rows i r0:=by rw[hi,b0];rfl
 have e0:=e0 rfl 1 _ _ _ rfl (by rw[b0];simp);obtain⟨i4,h6,vE,c8,c0⟩:=e0;injection c8 with c8
 injection c8 with e1 e2 _
 subst e1 e2;show Calls _ _ _ w fun ex w'=>∃v' B',ex=.returned v'/\aI w w' B/\dg w' _ _ (gd [D.l (dt x.rows (q 0).int.toNat (r 0 0))] 0).rows v' B'/\_
 rw[h2,b0,hi];have c7:∀(k:Nat) v,(bh [r0])[k]?=some v->w.cell? ⟨U,0+k,none⟩=some v:=fun k v hk=>(a5 k v hk).1
 have k6:0<prot U:=Nat.lt_of_le_of_lt (y5 _) (a5 0 _ rfl).2;show Calls _ _ #[u,.int .i64 (i:Int),.slice (some ⟨U,0,none⟩) 1 vc] w _;by_cases b6:i=x.rows.length
 ·have h4:dt x.rows i r0=x.rows ++ [r0]:=by unfold dt;rw[b6];simp
  rw[h4];have e6:∃base c,u=.slice base x.rows.length c/\x.rows.length<=c/\c<=9223372036854775807/\(base=none->c=0):=by
   rcases EE hO with⟨_,h0,A,rfl⟩ | ⟨b,cap,arr,rfl,rfl,a6,V,_⟩
   ·exact⟨A,0,by rw[h0];rfl,by rw[h0];simp,by omega,fun _=>rfl⟩
   ·exact⟨_,cap,rfl,a6,V,fun h=>by cases h⟩
  obtain⟨base,c,rfl,a6,V,i1⟩:=e6;obtain⟨v',w1,B',k1,k2,k3,k4⟩:=ajI hO U 0 vc (by omega) c7;rw[b6];refine (H.ins_end base x.rows.length c U 0 vc w w1 v' a6 V i1 k1).mono ?_;rintro ex w' ⟨rfl,rfl⟩;exact⟨_,B',rfl,k2,k3,k4⟩
 ·have a0:i<x.rows.length:=by omega
  rcases EE hO with⟨_,h0,_⟩ | ⟨b,cap,arr,rfl,rfl,a6,V,hh,hs,hc⟩
  ·rw[h0] at a0;simp at a0
  ·have h7:U≠b:=by rintro rfl;have:=hB U rfl;omega
   obtain⟨n,hn⟩:∃n,n=x.rows.length:=⟨_,rfl⟩;rw[<- hn] at a6 a0 ⊢;have b5:(bh x.rows).length=n*2:=by rw[eE,hn]
   have f3:∀(j:Nat) v,(bh x.rows)[j]?=some v->w.cell? ⟨b,0+j,none⟩=some v:=fun j v hj=>by rw[i9,dx hh];exact hc j v hj
   have g1:(dt x.rows i r0).length=n+1:=by simp[dt];omega
   have g2:((bh x.rows).drop (i*2)).length=(n - i)*2:=by rw[t5,b5];omega
   have c9:(bh [r0]).length=2:=rfl;by_cases e7:n+1<=cap
   ·have:=H.ins_shift b 0 n cap i (i+1) U 0 vc (bh x.rows) (bh [r0]) w rfl a0 e7 V h7 b5 rfl f3
     (fun j hj=>by rw[i9,dx hh,n3 (by omega)];rfl) (fun j _=>gL hh _) c7 (ju _) (ju _) vE 108 h6.size arr.size (by simp[World.shape?,c0]) (by simp[World.shape?,hh]) (by omega) (gL c0 _) (gL c0 _)
    refine this.mono ?_;rintro ex w' ⟨rfl,rfl⟩;obtain⟨a8,a1,a2,a3,a4⟩:=bA b 108 (0,0) ((bh x.rows).drop (i*2)) (0+(i+1)*2) w.drew arr hh (by rw[g2,hs];omega);obtain⟨h5,b1,b2,b3,b4⟩:=bA b 108 (0,0) (bh [r0]) (0+i*2) _ a8 a1 (by rw[c9,a2,hs];omega);obtain⟨c1,c2,c3,c4,c5⟩:=bu b ((bh x.rows).drop (i*2)) (0+(i+1)*2) w.drew;obtain⟨d1,d2,d3,d4,d5⟩:=bu b (bh [r0]) (0+i*2) (w.drew.setCells b (0+(i+1)*2) ((bh x.rows).drop (i*2)));refine⟨_,some b,rfl,⟨d1.trans c1,d2.trans c2,d3.trans c3,C5 (d4.trans c4).symm,fun k _ hk=>(d5 k (fun e=>hk (by rw[e]))).trans (c5 k (fun e=>hk (by rw[e])))⟩,?_,fun b hb=>.inl hb⟩;refine DQ b1 g1.symm (by rw[b2,a2,hs]) (by omega) V fun k v hk=>?_
    rcases Ny x.rows i r0 (by omega) hk with⟨q1,Z⟩ | ⟨q1,Z,q3⟩ | ⟨q1,Z⟩
    ·rw[b3 k (.inl (by omega)),a3 k (.inl (by omega))];exact hc k v Z
    ·have:=b4 _ v q3
     rwa [show 0+i*2+(k - i*2)=k from by omega] at this
    ·rw[b3 k (.inr (by rw[c9];omega))];have:=a4 _ v Z
     rwa [show 0+(i+1)*2+(k - (i+1)*2)=k from by omega] at this
   ·obtain rfl:cap=n:=by omega
    have:=H.ins_grow b 0 cap i (i+1) U 0 vc (bh x.rows) (bh [r0]) w rfl a0 (by omega) b5 rfl f3 c7 (ju _) (ju _);refine this.mono ?_;rintro ex w' ⟨rfl,rfl⟩;have h9:=grownCap_ge w (cap+1) cap 108;have f0:=grownCap_le_maxLen w (cap+1) cap 108 (by unfold maxLen;omega);obtain⟨G,hG⟩:∃G,G=grownCap w (cap+1) cap 108:=⟨_,rfl⟩;rw[<- hG] at h9 f0 ⊢;have h8:H.zc.cells.size=2:=rfl;obtain⟨J,a7⟩:∃J:Array Value,J=((bh x.rows).take (i*2)).toArray++Builtin.zeroCells H.zc.cells (cap+1 - i)++Builtin.zeroCells H.zc.cells (G - (cap+1)):=⟨_,rfl⟩;have f2:((bh x.rows).take (i*2)).length=i*2:=by rw[s9,b5];omega
    have c6:J.size=G*2:=by rw[a7];simp only[A9,z6,f2,size_zeroCells,h8];omega
    have i0:∀(k:Nat) v,k<i*2->(bh x.rows)[k]?=some v->J[k]?=some v:=fun k v hk hv=>by rw[a7,J2,r9 (by simp only[z6,f2];exact hk)];simp[s7,hk,hv]
    rw[<- a7];have hW:((w.alloc (.cells J 108)).drew).heap[w.heap.size]?=some (.cells J 108 (0,0)):=by letI:Low:=yO;exact fw w _
    obtain⟨a8,a1,a2,a3,a4⟩:=bA w.heap.size 108 (0,0) (bh [r0]) (i*2) _ J hW (by rw[c9,c6];omega);obtain⟨h5,b1,b2,b3,b4⟩:=bA w.heap.size 108 (0,0) ((bh x.rows).drop (i*2)) ((i+1)*2) ((((w.alloc (.cells J 108)).drew).setCells w.heap.size (i*2) (bh [r0])).drew) a8 a1 (by rw[g2,a2,c6];omega);obtain⟨c1,c2,c3,c4,c5⟩:=bu w.heap.size (bh [r0]) (i*2) ((w.alloc (.cells J 108)).drew);obtain⟨d1,d2,d3,d4,d5⟩:=bu w.heap.size ((bh x.rows).drop (i*2)) ((i+1)*2) ((((w.alloc (.cells J 108)).drew).setCells w.heap.size (i*2) (bh [r0])).drew);refine⟨_,some w.heap.size,rfl,⟨d1.trans c1,d2.trans c2,d3.trans c3,?_,fun k hk _=>(d5 k (by omega)).trans ((c5 k (by omega)).trans (Below.heap_alloc w _ k hk))⟩,?_,fun b hb=>.inr (by injection hb with hb;omega)⟩
    ·refine o8 ?_ (C5 (d4.trans c4).symm);show w.heap.size<=(w.heap.push _).size;rw[Array.size_push];omega
    ·refine DQ b1 g1.symm (by rw[b2,a2,c6]) (by omega) (by unfold maxLen at f0;omega) fun k v hk=>?_
     rcases Ny x.rows i r0 (by omega) hk with⟨q1,Z⟩ | ⟨q1,Z,q3⟩ | ⟨q1,Z⟩
     ·rw[b3 k (.inl (by omega)),a3 k (.inl (by omega))];exact i0 k v q1 Z
     ·rw[b3 k (.inl (by omega))];have:=a4 _ v q3
      rwa [show i*2+(k - i*2)=k from by omega] at this
     ·have:=b4 _ v Z
      rwa [show (i+1)*2+(k - (i+1)*2)=k from by omega] at this
set_option maxRecDepth 4096
set_option maxHeartbeats 1000000
abbrev aie:=find [Hg,vR,abJ,aaz]
abbrev agD:=[0,1,2,6,7,8,9,16,28,33]
theorem afv(N:Nat)(p q r:b8):aZ f4 aie N agD Tryz.f259 (.one (.c (.own (0,0) true 108))) [⟨sd (.sl 108),p⟩,⟨ri,q⟩,⟨ri,r⟩]=some (bo,
 nd (cl (p 0)&&inB (q 0).int 0 999) (bif (r 0).int==(-1) then bif bsB (p 0) (q 0).int then nd (leI (p 0) 1000000) (nd (leI (p 0) 1000000&&al (bl (p 0) (q 0).int:Int) (p 0).rows.length&&((w64 ((bl (p 0) (q 0).int:Int)+1))==(bl (p 0) (q 0).int:Int)+1)) (some (1,[.l (mg (p 0).rows (bl (p 0) (q 0).int:Int).toNat)])))
 else bif (r 0).int==(-1) then nd (leI (p 0) 1000000) (some (1,[.l (p 0).rows]))
 else bif bsB (p 0) (q 0).int then nd (leI (p 0) 1000000) (nd (al (bl (p 0) (q 0).int:Int) (p 0).rows.length) (some (1,[.l ((p 0).rows.set (bl (p 0) (q 0).int:Int).toNat [((p 0).rows.getD (bl (p 0) (q 0).int:Int).toNat []) 0,r 0])])))
 else nd (leI (p 0) 1000000) (nd (leI (p 0) 1000000&&leI 0 (bl (p 0) (q 0).int:Int)&&leI (bl (p 0) (q 0).int:Int) (p 0:Int)&&([[q 0,r 0]].length==1)) (some (1,[.l (dt (p 0).rows (bl (p 0) (q 0).int:Int).toNat ([[q 0,r 0]].getD 0 []))])))
 else bif (r 0).int==(-1) then nd (leI (p 0) 1000000) (some (1,[.l (p 0).rows]))
 else bif bsB (p 0) (q 0).int then nd (leI (p 0) 1000000) (nd (al (bl (p 0) (q 0).int:Int) (p 0).rows.length) (some (1,[.l ((p 0).rows.set (bl (p 0) (q 0).int:Int).toNat [((p 0).rows.getD (bl (p 0) (q 0).int:Int).toNat []) 0,r 0])])))
 else nd (leI (p 0) 1000000) (nd (leI (p 0) 1000000&&leI 0 (bl (p 0) (q 0).int:Int)&&leI (bl (p 0) (q 0).int:Int) (p 0:Int)&&([[q 0,r 0]].length==1)) (some (1,[.l (dt (p 0).rows (bl (p 0) (q 0).int:Int).toNat ([[q 0,r 0]].getD 0 []))]))))):=by kernel_rfl
theorem aaW{C:Nat->Bool}:∀m k,cnt C k m<=m
 | 0,_=>g8 _
 | m+1,k=>by have:=aaW (C:=C) m k;rw[im];cases C (k+m) <;> simp <;> omega
theorem aly(z:D)(t:Int):bl z t<=z.rows.length:=aaW _ _
theorem agK{z:D}{t:Int}(h:bsB z t=true):bl z t<z.rows.length:=by simp only[bsB,a9,ltI,f7] at h;omega
def LY(z k v:D):D:=bif bsB z k.int then (bif v.int == -1 then .l (mg z.rows (bl z k.int)) else .l (z.rows.set (bl z k.int) [z.rows.getD (bl z k.int) [] 0,v])) else (bif v.int == -1 then .l z.rows else .l (dt z.rows (bl z k.int) [k,v]))
def aeN:Ent:=(259,e3 (sd (.sl 108)) ri ri fun p q r=>(⟨.one (.c (.own (0,0) true 108)),[LY (p 0) (q 0) (r 0)]⟩,cl (p 0)&&inB (q 0).int 0 999))
theorem ahY:aw f4 aeN:=em fun p q r h=>aq (N:=0) (ks:=agD) (ap (fC ⟨ON,fC ⟨tU,fC ⟨aca,fC ⟨abX,fN⟩⟩⟩⟩)) Tryz.func259 fun hw=>by
 rw[afv];have h:(cl (p 0)&&inB (q 0).int 0 999)=true:=h;rw[h,aP];simp only[a9] at h;have hz:=rK h.1;have Y:=hz.len;have J:=aly (p 0) (q 0).int;have h1:leI (p 0) 1000000=true:=bb (by omega);have O:leI (bl (p 0) (q 0).int:Int) (p 0:Int)=true:=bb (by omega);have V:w64 ((bl (p 0) (q 0).int:Int)+1)=(bl (p 0) (q 0).int:Int)+1:=br (by omega) (by omega);unfold LY;simp only[h1,akA,O,V,aP,g4,s8,n8,D2];cases U:bsB (p 0) (q 0).int
 ·cases (r 0).int == -1 <;> rfl
 ·rw[bP (agK U)];cases (r 0).int == -1 <;> rfl
abbrev At:=find []
theorem PM:av f4 At:=ap (fN)
abbrev BC:=[0,1,2,3,8,9,10,11,18,31,44,53,3000008]
def mG(N:Nat)(p q r s:b8):b8->Out:=bc f4 At N BC Tryz.f219 (.one (.c (.own (0,0) true 108))) [⟨sd (.sl 108),p⟩,⟨ri,q⟩,⟨ri,r⟩,⟨rb,s⟩] 0
theorem Hp(N:Nat)(p q r s:b8)(O V Z x3 x4 Y x6 U:D):(mG N p q r s) [O,V,Z,x3,x4,Y,x6,U] =
 bif ltI U.int O then bif !x6.bool then nd (al U.int O.rows.length) (bif leI V.int (O.rows.getD U.int.toNat [] 0).int then nd (bq (Y.rows ++ [[V,Z]])&&true) ((let J:Out:=nx [O,V,Z,x3,x4,.l (Y.rows ++ [[V,Z]]),.b true,U,.b (ltI U.int O),.b (leI V.int (O.rows.getD U.int.toNat [] 0).int)]
  nd J.isSome (nd (al (J.pay 7).int (J.pay 0).rows.length) (bif (((J.pay 0).rows.getD (J.pay 7).int.toNat []) 0).int != (J.pay 1).int then nd (al (J.pay 7).int (J.pay 0).rows.length) (nd (bq ((J.pay 5).rows ++ [sub ((J.pay 0).rows.getD (J.pay 7).int.toNat []) 0 2])&&true) (nx [J.pay 0,J.pay 1,J.pay 2,J.pay 3,J.pay 4,.l ((J.pay 5).rows ++ [sub ((J.pay 0).rows.getD (J.pay 7).int.toNat []) 0 2]),J.pay 6,.i (w64 ((J.pay 7).int+1))]))
  else nx [J.pay 0,J.pay 1,J.pay 2,J.pay 3,J.pay 4,J.pay 5,J.pay 6,.i (w64 ((J.pay 7).int+1))]))))
 else nd (al U.int O.rows.length) (bif (O.rows.getD U.int.toNat [] 0).int != V.int then nd (al U.int O.rows.length) (nd (bq (Y.rows ++ [sub (O.rows.getD U.int.toNat []) 0 2])&&true) (nx [O,V,Z,x3,x4,.l (Y.rows ++ [sub (O.rows.getD U.int.toNat []) 0 2]),x6,.i (w64 (U.int+1))]))
 else nx [O,V,Z,x3,x4,Y,x6,.i (w64 (U.int+1))]))
 else nd (al U.int O.rows.length) (bif (O.rows.getD U.int.toNat [] 0).int != V.int then nd (al U.int O.rows.length) (nd (bq (Y.rows ++ [sub (O.rows.getD U.int.toNat []) 0 2])&&true) (nx [O,V,Z,x3,x4,.l (Y.rows ++ [sub (O.rows.getD U.int.toNat []) 0 2]),x6,.i (w64 (U.int+1))]))
 else nx [O,V,Z,x3,x4,Y,x6,.i (w64 (U.int+1))])
 else ex 0 [O,V,Z,x3,x4,Y,x6,U]:=by kernel_rfl
theorem SK(N:Nat)(p q r s:b8):aZ f4 At N BC Tryz.f219 (.one (.c (.own (0,0) true 108))) [⟨sd (.sl 108),p⟩,⟨ri,q⟩,⟨ri,r⟩,⟨rb,s⟩]=some (bo,
 (let J:=ba (mG N p q r s) N [p 0,q 0,r 0,s 0,.l [],.l [],.b (!(s 0).bool),.i 0]
  nd J.isSome (nd (J.code==2) (bif !(J.pay 6).bool then nd (bq ((J.pay 5).rows ++ [sub J.pay 1 2])&&true) (some (1,[.l ((J.pay 5).rows ++ [sub J.pay 1 2])]))
  else some (1,[J.pay 5]))))):=by kernel_rfl
def rX(k v:D)(st:List b8 × Bool)(r:b8):List b8 × Bool:=
 (bif (r 0).int != k.int then (bif !st.2&&leI k.int (r 0).int then st.1 ++ [[k,v]] else st.1) ++ [sub r 0 2] else (bif !st.2&&leI k.int (r 0).int then st.1 ++ [[k,v]] else st.1),st.2||leI k.int (r 0).int)
def zN(z k v:D)(keep:Bool)(n:Nat):List b8 × Bool:=(z.rows.take n).foldl (rX k v) ([],!keep)
theorem PQ(z k v:D)(keep:Bool){n:Nat}(h:n<z.rows.length):zN z k v keep (n+1)=rX k v (zN z k v keep n) (z.rows.getD n []):=by unfold zN;rw[G6,List.foldl_append,g6 h,f9,g6 h];rfl
theorem Nl(z k v:D)(keep:Bool):∀n,n<=z.rows.length->(zN z k v keep n).1.length<=2*n
 | 0,_=>by simp[zN]
 | n+1,h=>by rw[PQ z k v keep (by omega)];have:=Nl z k v keep n (by omega);unfold rX;generalize zN z k v keep n=A at *;cases !A.2&&leI k.int (z n 0).int <;> cases (z n 0).int != k.int <;> simp <;> omega
def WS(z k v:D)(keep:Bool):D:=.l (bif !(zN z k v keep z.rows.length).2 then (zN z k v keep z.rows.length).1 ++ [[k,v]] else (zN z k v keep z.rows.length).1)
def Lr:Ent:=(219,e4 (sd (.sl 108)) ri ri rb fun p q r s=>(⟨.one (.c (.own (0,0) true 108)),[WS (p 0) (q 0) (r 0) (s 0).bool]⟩,leI (p 0) 1000000))
theorem Ur:aw f4 Lr:=wV fun p q r s h=>aq (N:=(p 0).rows.length+1) (ks:=BC) PM Tryz.func219 fun hw=>by
 rw[SK];have h:leI (p 0) 1000000=true:=h;simp only[leI,f7] at h;have e:=bM (L:=mG ((p 0).rows.length+1) p q r s) (fun n => [p 0,q 0,r 0,s 0,.l [],.l (zN (p 0) (q 0) (r 0) (s 0).bool n).1,.b (zN (p 0) (q 0) (r 0) (s 0).bool n).2,.i (n:Int)]) (p 0).rows.length 0 (fun k hk=>?_) ?_ (N:=(p 0).rows.length+1) (by omega)
 ·simp only[g9] at e;rw[show (zN (p 0) (q 0) (r 0) (s 0).bool 0)=([],!(s 0).bool) from rfl] at e;rw[e];have U:=Nl (p 0) (q 0) (r 0) (s 0).bool _ (g8 _);simp only[nd,f8,f5,w7,Out.code,Out.pay,w3,aL,aJ,Nat.reduceBEq,Nat.reduceAdd,aE,gX,so,bp,l8,w5,n8];unfold WS;generalize zN (p 0) (q 0) (r 0) (s 0).bool (p 0).rows.length=A at *;have J:bq (A.1 ++ [[q 0,r 0]])=true:=bL (by simp;omega);cases A.2
  ·change some (bo,bif bq (A.1 ++ [[q 0,r 0]])&&true then some (1,[D.l (A.1 ++ [[q 0,r 0]])]) else none)=_;rw[J];rfl
  ·rfl
 ·show mG _ p q r s [_,_,_,_,_,_,_,.i (k:Int)]=_;rw[Hp,PQ _ _ _ _ hk];have U:=Nl (p 0) (q 0) (r 0) (s 0).bool k (by omega);generalize zN (p 0) (q 0) (r 0) (s 0).bool k=A at *;have O:∀x,bq (A.1 ++ [x])=true:=fun x=>bL (by simp;omega)
  have J:∀x y,bq (A.1 ++ [x] ++ [y])=true:=fun x y=>bL (by simp;omega)
  simp only[aE,gX,bp,cy hk,bn hk,aF hk (show (p 0).rows.length<=9223372036854775807 from by omega),g4,rX,O,D2,aP];cases A.2 <;> cases leI (q 0).int (p 0 k 0).int <;> cases hn:(p 0 k 0).int != (q 0).int <;> simp only[nd,f8,f5,w7,Out.code,Out.pay,w3,aL,aJ,Nat.reduceBEq,Nat.reduceAdd,aE,gX,so,bp,l8,w5,n8,O,J,hn,bP hk,g4,D2,C9,y7,s8,K3,K7,L6,F5,aF hk (show (p 0).rows.length<=9223372036854775807 from by omega)]
 ·show mG _ p q r s [_,_,_,_,_,_,_,.i (p 0:Int)]=_;rw[Hp];simp only[aE,bF]
def pr(r:b8):Int × Int:=((r 0).int,(r 1).int)
def prs(z:D):List (Int × Int):=z.rows.map pr
def prD(xs:List (Int × Int)):D:=.l (xs.map fun a => [.i a.1,.i a.2])
theorem Do(xs:List (Int × Int)):prs (prD xs)=xs:=by
 unfold prs prD;show ((xs.map _).map pr)=xs;rw[A7];have:(pr ∘ fun a:Int × Int => [D.i a.1,D.i a.2])=id:=by funext a;rfl
 rw[this,List.map_id]
theorem dF(z:D):(prs z).length=z.rows.length:=by simp[prs]
theorem nG(z:D)(i:Nat)(h:i<z.rows.length):(prs z)[i]'(by rw[dF];exact h)=(bI z i,(z.rows.getD i [] 1).int):=by simp[prs,pr,bI,f9,g6 h]
theorem agT(r:b8):pr (sub r 0 2)=pr r:=rfl
def upL(xs:List (Int × Int)):Prop:=xs.Pairwise (fun a b=>a.1<b.1)/\∀a∈xs,0<=a.1/\a.1<=999
theorem iz.upL{z:D}(h:iz z):upL (prs z):=by
 refine⟨t9.2 fun i j hi V U=>?_,fun a Y=>?_⟩
 ·have J:i<z.rows.length:=by rwa [dF] at hi
  have O:j<z.rows.length:=by rwa [dF] at V
  rw[nG z i J,nG z j O];exact h.lt i j U O
 ·obtain⟨i,hi,rfl⟩:=H8.1 Y;have J:i<z.rows.length:=by rwa [dF] at hi
  rw[nG z i J];exact h.key i J
theorem ame{xs:List (Int × Int)}(h:upL xs):xs.length<=1000:=by
 have hk:∀i (hi:i<xs.length),(i:Int)<=(xs[i]).1:=by
  intro i
  induction i with
  | zero=>intro hi;exact (h.2 _ (p9 hi)).1
  | succ i J =>intro hi;have h1:=J (by omega);have O:=t9.1 h.1 i (i+1) (by omega) hi (by omega);omega
 rcases A6 1000 xs.length with hlt | hge
 ·have h1:=hk 1000 hlt;have O:=(h.2 _ (p9 hlt)).2;omega
 ·exact hge
theorem adj{z:D}(h:upL (prs z)):iz z:=by
 refine⟨by rw[<- dF];exact ame h,fun k hk=>?_,fun i j O J=>?_⟩
 ·have:=h.2 _ (p9 (show k<(prs z).length from by rw[dF];exact hk));rw[nG z k hk] at this;exact this
 ·have:=t9.1 h.1 i j (by rw[dF];omega) (by rw[dF];exact J) O;rw[nG z i (by omega),nG z j J] at this;exact this
theorem EX{z:D}:cl z=true↔upL (prs z):=⟨fun h=>(rK h).upL,fun h=>Rs (adj h)⟩
def gv(k:Int)(xs:List (Int × Int)):List (Int × Int):=xs.filter fun a=>decide (a.1<k)
def iO(k:Int)(xs:List (Int × Int)):List (Int × Int):=xs.filter fun a=>decide (k<a.1)
def pT(xs:List (Int × Int))(k v:Int)(keep:Bool):List (Int × Int):=gv k xs++(bif keep then[(k,v)] else[])++iO k xs
theorem SP{xs:List (Int × Int)}(h:upL xs){k:Int}(hk:0<=k/\k<=999)(v:Int)(keep:Bool):upL (pT xs k v keep):=by
 have V:∀a∈gv k xs,a.1<k:=fun a J=>by simpa using (t8.1 J).2
 have U:∀a∈iO k xs,k<a.1:=fun a J=>by simpa using (t8.1 J).2
 have Z:(gv k xs).Pairwise (fun a b=>a.1<b.1):=h.1.filter _;have Y:(iO k xs).Pairwise (fun a b=>a.1<b.1):=h.1.filter _;unfold pT;refine⟨?_,?_⟩
 ·refine C1.2 ⟨C1.2 ⟨Z,by cases keep <;> simp,fun a J b O=>?_⟩,Y,fun a J b O=>?_⟩
  ·cases keep with
   | true=>simp only[f8,n4] at O;subst O;exact V a J
   | false=>simp at O
  ·rcases m7.1 J with J | J
   ·have:=V a J;have:=U b O;omega
   ·cases keep with
    | true=>simp only[f8,n4] at J;subst J;exact U b O
    | false=>simp at J
 ·intro a J;rcases m7.1 J with J | J
  ·rcases m7.1 J with J | J
   ·exact h.2 a (t8.1 J).1
   ·cases keep with
    | true=>simp only[f8,n4] at J;subst J;exact hk
    | false=>simp at J
  ·exact h.2 a (t8.1 J).1
theorem NE{xs:List (Int × Int)}{k:Int}(h:∀a∈xs,k<a.1):iO k xs=xs/\gv k xs = []:=by refine⟨B5.2 fun a J=>by simpa using h a J,D9.2 fun a J=>?_⟩;have:=h a J;simp;omega
theorem GL(f:b8->Bool)(rows:List b8):∀m,m<=rows.length->cnt (fun k=>f (rows.getD k [])) 0 m=((rows.take m).filter f).length
 | 0,_=>by simp[cnt]
 | m+1,h=>by
  rw[im,GL f rows m (by omega),G6,g6 (by omega),C0,i5,i9,f9,g6 (by omega)]
  congr 1
  simp only[w3,Option.toList_some,B0,N5];cases f rows[m] <;> rfl
theorem Ln{z:D}(t:Int):bl z t=(gv t (prs z)).length:=by unfold bl gv prs;rw[F9,m9];have:=GL (fun r=>decide ((r 0).int<t)) z.rows z.rows.length (g8 _);rw[C3] at this;exact this
theorem UE{xs:List (Int × Int)}(h:xs.Pairwise (fun a b=>a.1<b.1))(k:Int):xs=gv k xs++(xs.filter fun a=>a.1==k)++iO k xs:=by
 induction xs with
 | nil=>rfl
 | cons a xs Y =>
  rw[G9] at h;have:=Y h.2;unfold gv iO at *;rw[B0,B0,B0];rcases H9 a.1 k with hlt | he | hgt
  ·rw[j8 (by simpa using hlt),i7 (by simp;omega),i7 (by simp;omega)];rw[I8,I8,<- this]
  ·rw[i7 (by simp;omega),j8 (by simpa using he),i7 (by simp;omega)];have J:∀b∈xs,k<b.1:=fun b O=>by have:=h.1 b O;omega
   obtain⟨U,V⟩:=NE J;unfold iO at U;unfold gv at V;rw[U,V,show (xs.filter fun a=>a.1==k) = [] from D9.2 fun b O=>by have:=J b O;simp;omega];rfl
  ·rw[i7 (by simp;omega),i7 (by simp;omega),j8 (by simpa using hgt)];have J:∀b∈xs,k<b.1:=fun b O=>by have:=h.1 b O;omega
   obtain⟨U,V⟩:=NE J;unfold iO at U;unfold gv at V;rw[U,V,show (xs.filter fun a=>a.1==k) = [] from D9.2 fun b O=>by have:=J b O;simp;omega];rfl
theorem uj{xs:List (Int × Int)}(h:upL xs)(k:Int):xs=gv k xs++(xs.filter fun a=>a.1==k)++iO k xs:=UE h.1 k
theorem ald{z:D}(h:iz z){t:Int}(U:bsB z t=true):∃v,((prs z).filter fun a=>a.1==t) = [(t,v)]:=by
 have Y:=agK U;have hk:bI z (bl z t)=t:=by simp only[bsB,a9,p6] at U;exact U.2
 have hu:=h.upL;refine⟨(z (bl z t) 1).int,?_⟩;have J:(t,(z (bl z t) 1).int)∈(prs z).filter fun a=>a.1==t:=by refine t8.2 ⟨?_,by simp⟩;have:=nG z _ Y;rw[hk] at this;rw[<- this];exact p9 _
 have V:((prs z).filter fun a=>a.1==t).Pairwise (fun a b=>a.1<b.1):=hu.1.filter _;have O:∀a∈(prs z).filter fun a=>a.1==t,a.1=t:=fun a Z=>by simpa using (t8.1 Z).2
 generalize ((prs z).filter fun a=>a.1==t)=l at *
 match l with
 | []=>simp at J
 | [a]=>simp only[n4] at J;rw[J]
 | a::b::l =>rw[G9] at V;have h1:=V.1 b (by simp);have h2:=O a (by simp);have h3:=O b (by simp);omega
theorem anb{z:D}(h:iz z){t:Int}(U:bsB z t=false):((prs z).filter fun a=>a.1==t) = []:=by
 refine D9.2 fun a V J=>?_
 have J:a.1=t:=by simpa using J
 obtain⟨i,hi,rfl⟩:=H8.1 V;have O:i<z.rows.length:=by rwa [dF] at hi
 rw[nG z i O] at J;have J:bI z i=t:=J;have Z:bl z t=i:=qB (by omega) (fun k hk=>by have:=h.lt k i hk O;omega) (fun k h1 Y=>by
  rcases A6 i k with hik | hik
  ·have:=h.lt i k hik Y;omega
  ·obtain rfl:k=i:=by omega
   omega)
 unfold bsB at U;rw[Z,fI O,J,n8] at U;cases U
theorem ahB{z:D}(h:iz z)(t:Int):(prs z).take (bl z t)=gv t (prs z):=by have:=uj h.upL t;rw[Ln];have e:=congrArg (List.take (gv t (prs z)).length) this;rw[e,z7];exact List.take_left' rfl
theorem ajG{z:D}(h:iz z){t:Int}(J:bsB z t=false):(prs z).drop (bl z t)=iO t (prs z):=by have:=uj h.upL t;rw[anb h J,B9] at this;rw[Ln];have e:=congrArg (List.drop (gv t (prs z)).length) this;rw[e];exact List.drop_left' rfl
theorem agC{z:D}(h:iz z){t:Int}(J:bsB z t=true):(prs z).drop (bl z t+1)=iO t (prs z):=by have:=uj h.upL t;obtain⟨v,hv⟩:=ald h J;rw[hv] at this;rw[Ln];have e:=congrArg (List.drop ((gv t (prs z)).length+1)) this;rw[e];exact List.drop_left' (by simp)
theorem aiY{z:D}(h:iz z)(k v:D):prs (LY z k v)=pT (prs z) k.int v.int (!(v.int == -1)):=by
 have O:=ahB h k.int;unfold LY pT;have Y:∀rows,prs (.l rows)=rows.map pr:=fun _=>rfl
 cases U:bsB z k.int with
 | true =>
  have J:=agC h U;have Z:=agK U;cases hv:v.int == -1 with
  | true =>simp only[f8,l8,f5,B9];rw[Y,mg,u9,M7,M8];change (prs z).take _++(prs z).drop _=_;rw[O,J]
  | false =>
   simp only[f8,w5,f5];have V:prs (.l (z.rows.set (bl z k.int) [z (bl z k.int) 0,v]))=(prs z).take (bl z k.int) ++ [(k.int,v.int)]++(prs z).drop (bl z k.int+1):=by
    rw[Y,List.map_set,List.set_eq_take_append_cons_drop,j8 (by rw[m9];exact Z)];have hk:bI z (bl z k.int)=k.int:=by simp only[bsB,a9,p6] at U;exact U.2
    have:pr [z (bl z k.int) 0,v]=(k.int,v.int):=by show ((z (bl z k.int) 0).int,v.int)=_;rw[show (z (bl z k.int) 0).int=k.int from hk]
    rw[this];simp[prs]
   rw[V,O,J]
 | false =>
  have J:=ajG h U;cases hv:v.int == -1 with
  | true =>
   simp only[f8,l8,f5,B9];change prs z=_
   conv=>lhs;rw[<- F4 (bl z k.int) (prs z)]
   rw[O,J]
  | false =>simp only[f8,w5,f5];rw[Y,dt,u9,u5,M7,M8];change (prs z).take _++(pr [k,v]::(prs z).drop _)=_;rw[O,J,z7];rfl
theorem Su(k v:D):∀(rs:List b8) (J:List b8),rs.foldl (rX k v) (J,true)=(J++(rs.filter fun r=>(r 0).int != k.int).map (fun r=>sub r 0 2),true)
 | [],J=>by simp
 | r::rs,J=>by rw[List.foldl_cons];have:rX k v (J,true) r=(bif (r 0).int != k.int then J ++ [sub r 0 2] else J,true):=rfl;rw[this,Su k v rs,B0];cases (r 0).int != k.int <;> simp
def fin(k v:D)(R:List b8 × Bool):List b8:=bif !R.2 then R.1 ++ [[k,v]] else R.1
theorem XP(k:Int)(rs:List b8):((rs.filter fun r=>(r 0).int != k).map fun r=>sub r 0 2).map pr=(rs.map pr).filter fun a=>a.1 != k:=by rw[A7,F9];rfl
theorem afc{xs:List (Int × Int)}(h:upL xs)(k:Int):(xs.filter fun a=>a.1 != k)=gv k xs++iO k xs:=by
 have hs:=uj h k
 conv=>lhs;rw[hs]
 rw[C0,C0];have h1:(gv k xs).filter (fun a=>a.1 != k)=gv k xs:=B5.2 fun a J=>by
  have:a.1<k:=by simpa using (t8.1 J).2
  simp;omega
 have O:(iO k xs).filter (fun a=>a.1 != k)=iO k xs:=B5.2 fun a J=>by
  have:k<a.1:=by simpa using (t8.1 J).2
  simp;omega
 have U:((xs.filter fun a=>a.1==k).filter fun a=>a.1 != k) = []:=D9.2 fun a J=>by
  have:a.1=k:=by simpa using (t8.1 J).2
  simp;omega
 rw[h1,O,U,B9]
theorem agN(k v:D):∀(rs:List b8) (J:List b8),(rs.map pr).Pairwise (fun a b=>a.1<b.1)->(fin k v (rs.foldl (rX k v) (J,false))).map pr=J.map pr++pT (rs.map pr) k.int v.int true
 | [],J,_=>by simp[fin,pT,gv,iO,pr,aL,aJ]
 | r::rs,J,h=>by
  rw[List.foldl_cons];rw[u5,G9] at h;have V:∀b∈rs.map pr,(r 0).int<b.1:=h.1;rcases Int.lt_or_le (r 0).int k.int with hlt | hge
  ·have e1:rX k v (J,false) r=(J ++ [sub r 0 2],false):=by unfold rX;simp only[Er hlt,C9,f5,K7];rw[show ((r 0).int != k.int)=true from by simp;omega];rfl
   rw[e1,agN k v rs _ h.2];unfold pT gv iO;rw[u5,B0,B0,j8 (show decide ((pr r).1<k.int)=true from w8 hlt),i7 (show ¬decide (k.int<(pr r).1)=true from fun h=>by have:=j9 h;have:k.int<(r 0).int:=this;omega)];simp only[u9,u5,H5,agT,z7,I8,C7,f8]
  ·have O:∀b∈rs.map pr,k.int<b.1:=fun b hb=>by have:=V b hb;omega
   obtain⟨Y,Z⟩:=NE O;unfold gv at Z;unfold iO at Y;have U:((rs.map pr).filter fun a=>a.1 != k.int)=rs.map pr:=B5.2 fun a ha=>by have:=O a ha;simp;omega
   unfold pT gv iO;rw[u5,B0,B0,Y,Z,i7 (show ¬decide ((pr r).1<k.int)=true from fun h=>by have:=j9 h;have:(r 0).int<k.int:=this;omega)];rcases Int.lt_or_eq_of_le hge with hlt | he
   ·have e1:rX k v (J,false) r=(J ++ [[k,v]] ++ [sub r 0 2],true):=by unfold rX;simp only[bb hge,w5,D2,f8,K3];rw[show ((r 0).int != k.int)=true from by simp;omega];rfl
    rw[e1,Su,j8 (show decide (k.int<(pr r).1)=true from w8 hlt)];show (J ++ [[k,v]] ++ [sub r 0 2]++_).map pr=_;rw[u9,XP,U];simp only[u9,u5,H5,agT,z7,I8,C7,f8];rfl
   ·have e1:rX k v (J,false) r=(J ++ [[k,v]],true):=by unfold rX;simp only[bb hge,w5,D2,f8,K3];rw[show ((r 0).int != k.int)=false from by simp;omega];rfl
    rw[e1,Su,i7 (show ¬decide (k.int<(pr r).1)=true from fun h=>by have:=j9 h;have:k.int<(r 0).int:=this;omega)];show (J ++ [[k,v]]++_).map pr=_;rw[u9,XP,U];simp only[u9,u5,H5,z7,I8,C7,f8];rfl
theorem alr{z:D}(h:iz z)(k v:D)(keep:Bool):prs (WS z k v keep)=pT (prs z) k.int v.int keep:=by
 have J:=h.upL;unfold WS zN;rw[C3];cases keep with
 | true=>exact agN k v z.rows [] J.1
 | false =>rw[show (!false)=true from rfl,Su];show ([]++_:List b8).map pr=_;rw[C7,XP];change (prs z).filter _=_;rw[afc J];simp[pT]
theorem Ux{P:Program}{f:FuncId}{args:List T}{e:TypeId}{y O:D}(U:bk P e=some dZ)(hl:prs y=prs O)(h:aQ P f args ⟨.one (.c (.own (0,0) true e)),[y]⟩):aQ P f args ⟨.one (.c (.own (0,0) true e)),[O]⟩:=by
 have h:=h.n rfl;refine aQ.of rfl ⟨h.1,fun w prot vs ha hf=>(h.2 w prot vs ha hf).mono ?_⟩;rintro ex w' ⟨v,g',rfl,Y⟩;have J:y.rows.length=O.rows.length:=by rw[<- dF,<- dF,hl]
 refine⟨v,g',rfl,Y.below,?_,Y.prot,Y.fresh⟩;obtain⟨row,V,Z⟩:=Y.val;rw[U] at V;injection V with V;subst V
 refine⟨dZ,U,?_⟩;have Z:dp P w' g' w.heap.size (0,0) true e dZ y.rows v:=Z;show dp P w' g' w.heap.size (0,0) true e dZ O.rows v;rcases Z with⟨h0,h1,h2⟩ | ⟨cap,arr,E,h1,h2,h3,h4,h5,h6,h7,h8,h9,h10,h11⟩
 ·refine .inl ⟨t6 (by rw[<- J,h0];rfl),h1,h2⟩
 ·refine .inr ⟨cap,arr,E,by rw[<- J];exact h1,by rw[<- J];exact h2,h3,h4,h5,h6,h7,by rw[<- J];exact h8,h9,h10,fun i j s hi hs=>?_⟩;rw[<- J] at hi;obtain⟨u,k1,k2⟩:=h11 i j s hi hs;refine⟨u,k1,?_⟩;have he:pr (y.rows.getD i [])=pr (O.rows.getD i []):=by
   have h1:(prs y)[i]?=(prs O)[i]?:=by rw[hl]
   unfold prs at h1;rw[u6,u6,g6 hi,g6 (by omega)] at h1;rw[f9,f9,g6 hi,g6 (by omega)];simpa using h1
  unfold pr at he;injection he with e0 e1
  match j,hs with
  | 0,hs =>
   injection hs with hs
   subst hs;have:=tM (k:=.i64) k2;rw[this,e0];exact .int .i64 _
  | 1,hs =>
   injection hs with hs
   subst hs;have:=tM (k:=.i64) k2;rw[this,e1];exact .int .i64 _
def Tr(z:D)(k v:Int):D:=prD (pT (prs z) k v (leI 0 v))
def abB:Ent:=(259,e3 (sd (.sl 108)) ri ri fun p q r=>(⟨.one (.c (.own (0,0) true 108)),[Tr (p 0) (q 0).int (r 0).int]⟩,cl (p 0)&&inB (q 0).int 0 999&&leI (-1) (r 0).int))
theorem adX:aw f4 abB:=em fun p q r h=>by
 have h:(cl (p 0)&&inB (q 0).int 0 999&&leI (-1) (r 0).int)=true:=h;rw[a9] at h;obtain⟨h1,J⟩:=h;simp only[leI,f7] at J;refine Ux ja ?_ (ahY [⟨sd (.sl 108),p⟩,⟨ri,q⟩,⟨ri,r⟩] ⟨.one (.c (.own (0,0) true 108)),[LY (p 0) (q 0) (r 0)]⟩ ?_)
 ·rw[a9] at h1;rw[aiY (rK h1.1),Tr,Do]
  congr 1
  rw[p7];simp[leI];omega
 ·simp only[aeN,e3,n8,v6,f8,h1]
def vw:Ent:=(219,e4 (sd (.sl 108)) ri ri rb fun p q r s=>(⟨.one (.c (.own (0,0) true 108)),[prD (pT (prs (p 0)) (q 0).int (r 0).int (s 0).bool)]⟩,cl (p 0)))
theorem yI:aw f4 vw:=wV fun p q r s h=>by
 have h:cl (p 0)=true:=h;have hz:=rK h;have J:=hz.len;refine Ux ja ?_ (Ur [⟨sd (.sl 108),p⟩,⟨ri,q⟩,⟨ri,r⟩,⟨rb,s⟩] ⟨.one (.c (.own (0,0) true 108)),[WS (p 0) (q 0) (r 0) (s 0).bool]⟩ ?_)
 ·rw[alr hz,Do]
 ·have:leI (p 0) 1000000=true:=bb (by omega);simp only[Lr,e4,n8,v6,f8,this]
theorem ajR{z:D}(h:cl z=true){k:Int}(hk:inB k 0 999=true)(v:Int):cl (Tr z k v)=true:=by simp only[inB,a9,f7] at hk;rw[EX,Tr,Do];exact SP (EX.1 h) hk v _
abbrev vz:=find [pA,mX,LU]
abbrev vT:=[0,1,4,5,7,15,16,17,18,19,31]
def lh(N:Nat)(p q:b8):b8->Out:=bc f4 vz N vT Tryz.f115 ri [⟨sd (.sl 108),p⟩,⟨sd (.sl 70),q⟩] 0
theorem Dn(N:Nat)(p q:b8)(U Z x2 x3 Y O V J:D):(lh N p q) [U,Z,x2,x3,Y,O,V,J] =
 bif ltI J.int V.int then nd (al J.int O.rows.length) (bif (O.rows.getD J.int.toNat [] 1).int != (-1) then nd (aN U&&inB (O.rows.getD J.int.toNat [] 0).int 0 999) (bif ltI (xu U (O.rows.getD J.int.toNat [] 0).int).int 0 then nx [U,Z,x2,x3,.i (w64 (Y.int+1)),O,V,.i (w64 (J.int+1))]
 else nx [U,Z,x2,x3,Y,O,V,.i (w64 (J.int+1))])
 else nx [U,Z,x2,x3,Y,O,V,.i (w64 (J.int+1))])
 else ex 0 [U,Z,x2,x3,Y,O,V,J]:=by kernel_rfl
theorem OT(N:Nat)(p q:b8):aZ f4 vz N vT Tryz.f115 ri [⟨sd (.sl 108),p⟩,⟨sd (.sl 70),q⟩]=some (bo,
 bif !(aN (p 0)) then oi (-1)
 else bif !(aO (q 0)) then oi (-1)
 else (let J:=ba (lh N p q) N [p 0,q 0,.i 0,.b (!(aO (q 0))),.i 0,q 0,.i (q 0:Int),.i 0]
  nd J.isSome (nd (J.code==2) (some (1,[J.pay 4]))))):=by kernel_rfl
def ki(z w:D)(k:Nat):Bool:=leI 0 (w.rows.getD k [] 1).int&&ltI (xu z (w.rows.getD k [] 0).int).int 0
def bi(z w:D):Int:=bif aN z then bif aO w then (cnt (ki z w) 0 w.rows.length:Int) else -1 else -1
theorem agB{w:D}(h:aO w=true){k:Nat}(hk:k<w.rows.length):w.rows.length<=60/\inB (w.rows.getD k [] 0).int 0 999=true/\((w.rows.getD k [] 1).int != (-1))=leI 0 (w.rows.getD k [] 1).int:=by simp only[aO,a9,i6,m0,f7] at h;obtain⟨O,h⟩:=h;have:=h k hk;simp only[fL,a9] at this;refine⟨by omega,this.1,?_⟩;have J:=this.2.1;simp only[inB,a9,f7] at J;rw[p7];simp only[D1,ne_eq,leI,f7];omega
theorem uh{w:D}(h:aO w=true):w.rows.length<=60:=by simp only[aO,a9,f7] at h;omega
theorem Vi(z w:D)(k:Nat)(h:k<1000):(cnt (ki z w) 0 (k+1):Int)=bif ki z w k then w64 ((cnt (ki z w) 0 k:Int)+1) else (cnt (ki z w) 0 k:Int):=by
 have:=ZE (ki z w) k 0;rw[im,i9];cases ki z w k
 ·rfl
 ·rw[f8,f8,br (by omega) (by omega)];omega
def wz:Ent:=(115,e2 (sd (.sl 108)) (sd (.sl 70)) fun p q=>(⟨ri,[.i (bi (p 0) (q 0))]⟩,true))
theorem zD:aw f4 wz:=bj fun p q h=>aq (N:=61) (ks:=vT) (ap (fC ⟨oc,fC ⟨lU,fC ⟨Tw,fN⟩⟩⟩)) Tryz.func115 fun hw=>by
 rw[OT];unfold bi;cases hz:aN (p 0)
 ·rfl
 cases hw:aO (q 0)
 ·rfl
 have U:=uh hw;simp only[l8,f5,f8];have e:=bM (L:=lh 61 p q) (fun k => [p 0,q 0,.i 0,.b false,.i (cnt (ki (p 0) (q 0)) 0 k:Int),q 0,.i (q 0:Int),.i (k:Int)]) (q 0).rows.length 0 (fun k hk=>?_) ?_ (N:=61) (by omega)
 ·simp only[g9,Uv] at e;rw[e];rfl
 ·show lh _ p q [_,_,_,_,_,_,_,.i (k:Int)]=_;rw[Dn];obtain⟨_,J,O⟩:=agB hw hk;simp only[aE,cy hk,bn hk,aF hk (show (q 0).rows.length<=9223372036854775807 from by omega),g4];rw[hz,J,O,Vi _ _ _ (show k<1000 from by omega)];unfold ki;cases leI 0 (q 0 k 1).int <;> cases ltI (xu (p 0) (q 0 k 0).int).int 0 <;> rfl
 ·show lh _ p q [_,_,_,_,_,_,.i (q 0:Int),.i (q 0:Int)]=_;rw[Dn];simp only[aE,bF]
abbrev xG:=find [jr,mB,FZ]
abbrev wM:=[0,1,4,5,6,14,18,36]
def kz(N:Nat)(p q:b8):b8->Out:=bc f4 xG N wM Tryz.f103 ri [⟨sd (.sl 108),p⟩,⟨sd (.sl 70),q⟩] 0
theorem Ea(N:Nat)(p q:b8)(U J Z Y V O:D):(kz N p q) [U,J,Z,Y,V,O] =
 bif ltI O.int J then nd (al O.int J.rows.length) (bif leI 0 (J.rows.getD O.int.toNat [] 1).int then nd (al O.int J.rows.length) (nd (aN U) (bif ltI (xu U (J.rows.getD O.int.toNat [] 0).int).int 0 then nx [U,J,Z,Y,.i (w64 (V.int+1)),.i (w64 (O.int+1))]
 else nx [U,J,Z,Y,V,.i (w64 (O.int+1))]))
 else nx [U,J,Z,Y,V,.i (w64 (O.int+1))])
 else ex 0 [U,J,Z,Y,V,O]:=by kernel_rfl
theorem Pb(N:Nat)(p q:b8):aZ f4 xG N wM Tryz.f103 ri [⟨sd (.sl 108),p⟩,⟨sd (.sl 70),q⟩]=some (bo,
 bif !(aN (p 0)) then oi (-1)
 else bif !(aO (q 0)) then oi (-1)
 else (let J:=ba (kz N p q) N [p 0,q 0,.i 0,.b (!(aO (q 0))),.i 0,.i 0]
  nd J.isSome (nd (J.code==2) (some (1,[J.pay 4]))))):=by kernel_rfl
def vG:Ent:=(103,e2 (sd (.sl 108)) (sd (.sl 70)) fun p q=>(⟨ri,[.i (bi (p 0) (q 0))]⟩,true))
theorem zo:aw f4 vG:=bj fun p q h=>aq (N:=61) (ks:=wM) (ap (fC ⟨iB,fC ⟨mm,fC ⟨Iv,fN⟩⟩⟩)) Tryz.func103 fun hw=>by
 rw[Pb];unfold bi;cases hz:aN (p 0)
 ·rfl
 cases hw:aO (q 0)
 ·rfl
 have J:=uh hw;simp only[l8,f5,f8];have e:=bM (L:=kz 61 p q) (fun k => [p 0,q 0,.i 0,.b false,.i (cnt (ki (p 0) (q 0)) 0 k:Int),.i (k:Int)]) (q 0).rows.length 0 (fun k hk=>?_) ?_ (N:=61) (by omega)
 ·simp only[g9,Uv] at e;rw[e];rfl
 ·show kz _ p q [_,_,_,_,_,.i (k:Int)]=_;rw[Ea];simp only[aE,cy hk,bn hk,aF hk (show (q 0).rows.length<=9223372036854775807 from by omega),g4];rw[hz,aP,Vi _ _ _ (show k<1000 from by omega)];unfold ki;cases leI 0 (q 0 k 1).int <;> cases ltI (xu (p 0) (q 0 k 0).int).int 0 <;> rfl
 ·show kz _ p q [_,_,_,_,_,.i (q 0:Int)]=_;rw[Ea];simp only[aE,bF]
abbrev Sm:=find [wz]
abbrev Th:=[0,1,2,3,5,10,11,12,13]
def vV(N:Nat)(p:b8):b8->Out:=bc f4 Sm N Th Tryz.f114 ri [⟨ag aK,p⟩] 0
theorem Wb(N:Nat)(p:b8)(x0 x1 x2 x3 x4 x5 x6 x7 x8 x9 a4 a0 O V J a2 a6 a7 U Z a5 a3 a1 Y:D):(vV N p) [x0,x1,x2,x3,x4,x5,x6,x7,x8,x9,a4,a0,O,V,J,a2,a6,a7,U,Z,a5,a3,a1,Y] =
 bif ltI J.int V.int then nd (al J.int O.rows.length) (nx [x0,x1,x2,x3,x4,x5,x6,x7,x8,x9,a4,.i (w64 (a0.int+(bi U (O.rows.getD J.int.toNat [] 1)))),O,V,.i (w64 (J.int+1)),a2,a6,a7,U,Z,a5,a3,a1,Y])
 else ex 0 [x0,x1,x2,x3,x4,x5,x6,x7,x8,x9,a4,a0,O,V,J,a2,a6,a7,U,Z,a5,a3,a1,Y]:=by kernel_rfl
theorem adC(N:Nat)(p:b8):aZ f4 Sm N Th Tryz.f114 ri [⟨ag aK,p⟩]=some (bo,
 (let J:=ba (vV N p) N [p 0,p 1,p 2,p 3,p 4,p 5,p 6,p 7,p 8,.i 0,.i 0,.i (p 3:Int),p 5,.i (p 5:Int),.i 0,p 0,p 1,p 2,p 3,p 4,p 5,p 6,p 7,p 8]
  nd J.isSome (nd (J.code==2) (some (1,[J.pay 11]))))):=by kernel_rfl
def dD(c hs:D):Nat->Int
 | 0=>0
 | k+1=>dD c hs k+bi c (hs.rows.getD k [] 1)
def ii(p:b8):Int:=(p 3:Int)+dD (p 3) (p 5) (p 5).rows.length
theorem qr(c w:D) : -1<=bi c w/\bi c w<=60:=by
 unfold bi;cases aN c
 ·simp only[f5];omega
 cases h:aO w
 ·simp only[f8,f5];omega
 have h1:=uh h;have J:=ZE (ki c w) w.rows.length 0;simp only[f8];omega
theorem oC(c hs:D):∀k:Nat,-(k:Int)<=dD c hs k/\dD c hs k<=60*(k:Int)
 | 0=>⟨by simp only[dD];omega,by simp only[dD];omega⟩
 | k+1=>by have h1:=oC c hs k;have J:=qr c (gd (hs.rows.getD k []) 1);simp only[dD];omega
def Uo:Ent:=(114,e1 (ag aK) fun p=>(⟨ri,[.i (ii p)]⟩,leI (p 3) 1000000000&&leI (p 5) 1000000000))
theorem Rk:aw f4 Uo:=ck fun p h=>aq (N:=(gd p 5).rows.length+1) (ks:=Th) (ap (fC ⟨zD,fN⟩)) Tryz.func114 fun hw=>by
 rw[adC];have h:(leI ((gd p 3).rows.length:Int) 1000000000&&leI ((gd p 5).rows.length:Int) 1000000000)=true:=h;simp only[a9,leI,f7] at h;have e:=bM (L:=vV ((gd p 5).rows.length+1) p) (fun k => [gd p 0,gd p 1,gd p 2,gd p 3,gd p 4,gd p 5,gd p 6,gd p 7,gd p 8,.i 0,.i 0,.i (((gd p 3).rows.length:Int)+dD (gd p 3) (gd p 5) k),gd p 5,.i ((gd p 5).rows.length:Int),.i (k:Int),gd p 0,gd p 1,gd p 2,gd p 3,gd p 4,gd p 5,gd p 6,gd p 7,gd p 8]) (gd p 5).rows.length 0 (fun k hk=>?_) ?_ (N:=(gd p 5).rows.length+1) (by omega)
 ·simp only[g9,dD,Int.add_zero] at e;rw[e];rfl
 ·show vV _ p [_,_,_,_,_,_,_,_,_,_,_,_,_,_,.i (k:Int),_,_,_,_,_,_,_,_,_]=_;rw[Wb];have h1:=oC (gd p 3) (gd p 5) k;have J:=qr (gd p 3) (gd ((gd p 5).rows.getD k []) 1);simp only[aE,cy hk,bn hk,aF hk (show (gd p 5).rows.length<=9223372036854775807 from by omega),g4];rw[br (by omega) (by omega),Int.add_assoc];rfl
 ·show vV _ p [_,_,_,_,_,_,_,_,_,_,_,_,_,.i ((gd p 5).rows.length:Int),.i ((gd p 5).rows.length:Int),_,_,_,_,_,_,_,_,_]=_;rw[Wb];simp only[aE,bF]
abbrev FE:=find [vG]
abbrev Fz:=[0,1,2,3,4,9]
def pQ(N:Nat)(p:b8):b8->Out:=bc f4 FE N Fz Tryz.f102 ri [⟨ag aK,p⟩] 0
theorem KV(N:Nat)(p:b8)(x0 x1 x2 x3 x4 x5 x6 x7 x8 x9 a2 Y J a1 a4 a0 U a5 O V a3 Z:D):(pQ N p) [x0,x1,x2,x3,x4,x5,x6,x7,x8,x9,a2,Y,J,a1,a4,a0,U,a5,O,V,a3,Z] =
 bif ltI J.int O then nd (al J.int O.rows.length) (nx [x0,x1,x2,x3,x4,x5,x6,x7,x8,x9,a2,.i (w64 (Y.int+(bi U (O.rows.getD J.int.toNat [] 1)))),.i (w64 (J.int+1)),a1,a4,a0,U,a5,O,V,a3,Z])
 else ex 0 [x0,x1,x2,x3,x4,x5,x6,x7,x8,x9,a2,Y,J,a1,a4,a0,U,a5,O,V,a3,Z]:=by kernel_rfl
theorem Ww(N:Nat)(p:b8):aZ f4 FE N Fz Tryz.f102 ri [⟨ag aK,p⟩]=some (bo,
 (let J:=ba (pQ N p) N [p 0,p 1,p 2,p 3,p 4,p 5,p 6,p 7,p 8,.i 0,.i 0,.i 0,.i 0,p 0,p 1,p 2,p 3,p 4,p 5,p 6,p 7,p 8]
  nd J.isSome (nd (J.code==2) (some (1,[J.pay 11]))))):=by kernel_rfl
def yh:Ent:=(102,e1 (ag aK) fun p=>(⟨ri,[.i (dD (p 3) (p 5) (p 5).rows.length)]⟩,leI (p 5) 1000000000))
theorem wE:aw f4 yh:=ck fun p h=>aq (N:=(gd p 5).rows.length+1) (ks:=Fz) (ap (fC ⟨zo,fN⟩)) Tryz.func102 fun hw=>by
 rw[Ww];have h:leI ((gd p 5).rows.length:Int) 1000000000=true:=h;simp only[leI,f7] at h;have e:=bM (L:=pQ ((gd p 5).rows.length+1) p) (fun k => [gd p 0,gd p 1,gd p 2,gd p 3,gd p 4,gd p 5,gd p 6,gd p 7,gd p 8,.i 0,.i 0,.i (dD (gd p 3) (gd p 5) k),.i (k:Int),gd p 0,gd p 1,gd p 2,gd p 3,gd p 4,gd p 5,gd p 6,gd p 7,gd p 8]) (gd p 5).rows.length 0 (fun k hk=>?_) ?_ (N:=(gd p 5).rows.length+1) (by omega)
 ·simp only[g9,dD] at e;rw[e];rfl
 ·show pQ _ p [_,_,_,_,_,_,_,_,_,_,_,_,.i (k:Int),_,_,_,_,_,_,_,_,_]=_;rw[KV];have h1:=oC (gd p 3) (gd p 5) k;have J:=qr (gd p 3) (gd ((gd p 5).rows.getD k []) 1);simp only[aE,cy hk,bn hk,aF hk (show (gd p 5).rows.length<=9223372036854775807 from by omega),g4];rw[br (by omega) (by omega)];rfl
 ·show pQ _ p [_,_,_,_,_,_,_,_,_,_,_,_,.i ((gd p 5).rows.length:Int),_,_,_,_,_,_,_,_,_]=_;rw[KV];simp only[aE,bF]
abbrev CA:=find [jn]
abbrev DM:=[0,1,2,3]
theorem Ob(N:Nat)(p q:b8):aZ f4 CA N DM Tryz.f155 rb [⟨ag ay,p⟩,⟨.one (.c (.cptr [si,.sl 41,.sl 41,.sl 108,.sl 93,.sl 75,.sl 3,.sl 3,si] 0)),q⟩]=some (bo,
 ob (!(ca (((q 0).rows.getD 0 []) 1) (sub p 0 2)))):=by kernel_rfl
def nU(p q:b8):Bool:=
 !(ca (((q 0).rows.getD 0 []) 1) (sub p 0 2))
def uE:Ent:=(155,e2 (ag ay) (.one (.c (.cptr [si,.sl 41,.sl 41,.sl 108,.sl 93,.sl 75,.sl 3,.sl 3,si] 0))) fun p q=>(⟨rb,[.b (nU p [q 0])]⟩,true))
theorem xS:aw f4 uE:=bj fun p q h=>aq (N:=0) (ks:=DM) (ap (fC ⟨iH,fN⟩)) Tryz.func155 fun hw=>by
 rw[Ob]
 try simp only[dd,de,db]
 rfl
abbrev CD:=find [Md,jn]
abbrev Ey:=[0,1,2,3]
theorem NY(N:Nat)(p q:b8):aZ f4 CD N Ey Tryz.f156 rb [⟨ag AD,p⟩,⟨.one (.c (.cptr [si,.sl 41,.sl 41,.sl 108,.sl 93,.sl 75,.sl 3,.sl 3,si] 0)),q⟩]=some (bo,
 ob (!(ca (((q 0).rows.getD 0 []) 1) [p 0,.i (w64 ((p 0).int+1))]))):=by kernel_rfl
def nT(p q:b8):Bool:=
 !(ca (((q 0).rows.getD 0 []) 1) [p 0,.i (w64 ((p 0).int+1))])
def tL:Ent:=(156,e2 (ag AD) (.one (.c (.cptr [si,.sl 41,.sl 41,.sl 108,.sl 93,.sl 75,.sl 3,.sl 3,si] 0))) fun p q=>(⟨rb,[.b (nT p [q 0])]⟩,true))
theorem wa:aw f4 tL:=bj fun p q h=>aq (N:=0) (ks:=Ey) (ap (fC ⟨BU,fC ⟨iH,fN⟩⟩)) Tryz.func156 fun hw=>by
 rw[NY]
 try simp only[dd,de,db]
 rfl
abbrev Ci:=find [xz,jn,Xs]
abbrev CU:=[0,1,2,3,4]
theorem NQ(N:Nat)(p q r:b8):aZ f4 Ci N CU Tryz.f159 rb [⟨ag cV,p⟩,⟨.one (.c (.cptr [si,.sl 41,.sl 41,.sl 108,.sl 93,.sl 75,.sl 3,.sl 3,si] 0)),q⟩,⟨.one (.c (.cptr [.sl 3] 0)),r⟩]=some (bo,
 bif !(ca (((q 0).rows.getD 0 []) 1) [p 1,p 2]) then ob true
 else ob (aA (((r 0).rows.getD 0 []) 0) (p 0).int)):=by kernel_rfl
def oh(p q r:b8):Bool:=
 bif !(ca (((q 0).rows.getD 0 []) 1) [p 1,p 2]) then true
 else aA (((r 0).rows.getD 0 []) 0) (p 0).int
def te:Ent:=(159,e3 (ag cV) (.one (.c (.cptr [si,.sl 41,.sl 41,.sl 108,.sl 93,.sl 75,.sl 3,.sl 3,si] 0))) (.one (.c (.cptr [.sl 3] 0))) fun p q r=>(⟨rb,[.b (oh p [q 0] [r 0])]⟩,true))
theorem xw:aw f4 te:=em fun p q r h=>aq (N:=0) (ks:=CU) (ap (fC ⟨tD,fC ⟨iH,fC ⟨Ap,fN⟩⟩⟩)) Tryz.func159 fun hw=>by
 rw[NQ]
 try simp only[dd,de,db]
 rfl
abbrev XY:=find [uE]
abbrev YH:=[0,1,4,5,7,8,9,16]
def BR(N:Nat)(p q:b8):b8->Out:=bc f4 XY N YH Tryz.f207 ri [⟨sd (.sl 41),p⟩,⟨.one (.c (.fn 155 [.cptr [si,.sl 41,.sl 41,.sl 108,.sl 93,.sl 75,.sl 3,.sl 3,si] 0])),q⟩] 0
theorem abQ(N:Nat)(p q:b8)(O U Y V J:D):(BR N p q) [O,U,Y,V,J] =
 bif ltI J.int V.int then nd (al J.int O.rows.length) (bif nU (sub (O.rows.getD J.int.toNat []) 0 2) [U.rows.getD 0 [] 0] then some (1,[J])
 else nx [O,U,Y,V,.i (w64 (J.int+1))])
 else ex 0 [O,U,Y,V,J]:=by kernel_rfl
theorem ahj(N:Nat)(p q:b8):aZ f4 XY N YH Tryz.f207 ri [⟨sd (.sl 41),p⟩,⟨.one (.c (.fn 155 [.cptr [si,.sl 41,.sl 41,.sl 108,.sl 93,.sl 75,.sl 3,.sl 3,si] 0])),q⟩]=some (bo,
 (let J:=ba (BR N p q) N [p 0,q 0,.i 0,.i (p 0:Int),.i 0]
  nd J.isSome (bif J.code==1 then some (1,J.pay)
  else nd (J.code==2) (oi (-1))))):=by kernel_rfl
def ru(c:D)(r:b8):Bool:=nU r [c.rows.getD 0 [] 0]
def ahQ:Ent:=(207,e2 (sd (.sl 41)) (.one (.c (.fn 155 [.cptr [si,.sl 41,.sl 41,.sl 108,.sl 93,.sl 75,.sl 3,.sl 3,si] 0]))) fun p q=>(⟨ri,[.i (ixF (fun k=>ru (q 0) (sub ((p 0).rows.getD k []) 0 2)) 0 (p 0).rows.length)]⟩,true))
theorem agk:aw f4 ahQ:=bj fun p q h=>aq (N:=(p 0).rows.length+1) (ks:=YH) (ap (fC ⟨xS,fN⟩)) Tryz.func207 fun hw=>by
 rw[ahj];have U:=dY (hw ⟨sd (.sl 41),p⟩ (by simp));have e:=fK (L:=BR ((p 0).rows.length+1) p q) (fun k => [p 0,q 0,.i 0,.i (p 0:Int),.i (k:Int)]) (p 0).rows.length (fun k=>ru (q 0) (sub (p 0 k) 0 2)) [p 0,q 0,.i 0,.i (p 0:Int),.i (p 0:Int)] (fun k hk=>?_) ?_ (p 0).rows.length 0 ((p 0).rows.length+1) (by omega) (by omega)
 ·simp only[g9] at e;rw[e];have J:=fx (fun k=>ru (q 0) (sub (p 0 k) 0 2)) (p 0).rows.length 0;cases O:decide (ixF (fun k=>ru (q 0) (sub (p 0 k) 0 2)) 0 (p 0).rows.length>=0)
  ·rw[J O];rfl
  ·rfl
 ·show BR _ p q [_,_,_,_,.i (k:Int)]=_;rw[abQ];simp only[aE,cy hk,bn hk,aF hk U,g4];unfold ru;cases nU (sub (p 0 k) 0 2) [q 0 0 0] <;> rfl
 ·show BR _ p q [_,_,_,.i (p 0:Int),.i (p 0:Int)]=_;rw[abQ];simp only[aE,bF]
abbrev aew:=find [ahQ,uE]
abbrev ahV:=[0,1,4]
theorem agR(N:Nat)(p q:b8):aZ f4 aew N ahV Tryz.f106 rb [⟨sd (.sl 41),p⟩,⟨.one (.c (.fn 155 [.cptr [si,.sl 41,.sl 41,.sl 108,.sl 93,.sl 75,.sl 3,.sl 3,si] 0])),q⟩]=some (bo,
 ob (leI 0 (ixF (fun k=>ru (.l [[((q 0).rows.getD 0 []) 0]]) (sub ((p 0).rows.getD k []) 0 2)) 0 (p 0).rows.length))):=by kernel_rfl
def afC:Ent:=(106,e2 (sd (.sl 41)) (.one (.c (.fn 155 [.cptr [si,.sl 41,.sl 41,.sl 108,.sl 93,.sl 75,.sl 3,.sl 3,si] 0]))) fun p q=>(⟨rb,[.b (dK (fun J=>ru (q 0) (sub J 0 2)) (p 0))]⟩,true))
theorem ahn:aw f4 afC:=bj fun p q h=>aq (N:=0) (ks:=ahV) (ap (fC ⟨agk,fC ⟨xS,fN⟩⟩)) Tryz.func106 fun hw=>by rw[agR];refine congrArg (fun x=>some (bo,ob x)) ?_;exact (iD (fun k=>ru (q 0) (sub (p 0 k) 0 2)) (p 0).rows.length 0).trans (by simp only[i9];rfl)
abbrev YR:=find [tL]
abbrev XM:=[0,1,4,5,7,8,9,16]
def Et(N:Nat)(p q:b8):b8->Out:=bc f4 YR N XM Tryz.f221 ri [⟨sd (.sl 108),p⟩,⟨.one (.c (.fn 156 [.cptr [si,.sl 41,.sl 41,.sl 108,.sl 93,.sl 75,.sl 3,.sl 3,si] 0])),q⟩] 0
theorem abN(N:Nat)(p q:b8)(O U Y V J:D):(Et N p q) [O,U,Y,V,J] =
 bif ltI J.int V.int then nd (al J.int O.rows.length) (bif nT (sub (O.rows.getD J.int.toNat []) 0 2) [U.rows.getD 0 [] 0] then some (1,[J])
 else nx [O,U,Y,V,.i (w64 (J.int+1))])
 else ex 0 [O,U,Y,V,J]:=by kernel_rfl
theorem ahD(N:Nat)(p q:b8):aZ f4 YR N XM Tryz.f221 ri [⟨sd (.sl 108),p⟩,⟨.one (.c (.fn 156 [.cptr [si,.sl 41,.sl 41,.sl 108,.sl 93,.sl 75,.sl 3,.sl 3,si] 0])),q⟩]=some (bo,
 (let J:=ba (Et N p q) N [p 0,q 0,.i 0,.i (p 0:Int),.i 0]
  nd J.isSome (bif J.code==1 then some (1,J.pay)
  else nd (J.code==2) (oi (-1))))):=by kernel_rfl
def rn(c:D)(r:b8):Bool:=nT r [c.rows.getD 0 [] 0]
def aiw:Ent:=(221,e2 (sd (.sl 108)) (.one (.c (.fn 156 [.cptr [si,.sl 41,.sl 41,.sl 108,.sl 93,.sl 75,.sl 3,.sl 3,si] 0]))) fun p q=>(⟨ri,[.i (ixF (fun k=>rn (q 0) (sub ((p 0).rows.getD k []) 0 2)) 0 (p 0).rows.length)]⟩,true))
theorem agb:aw f4 aiw:=bj fun p q h=>aq (N:=(p 0).rows.length+1) (ks:=XM) (ap (fC ⟨wa,fN⟩)) Tryz.func221 fun hw=>by
 rw[ahD];have U:=dY (hw ⟨sd (.sl 108),p⟩ (by simp));have e:=fK (L:=Et ((p 0).rows.length+1) p q) (fun k => [p 0,q 0,.i 0,.i (p 0:Int),.i (k:Int)]) (p 0).rows.length (fun k=>rn (q 0) (sub (p 0 k) 0 2)) [p 0,q 0,.i 0,.i (p 0:Int),.i (p 0:Int)] (fun k hk=>?_) ?_ (p 0).rows.length 0 ((p 0).rows.length+1) (by omega) (by omega)
 ·simp only[g9] at e;rw[e];have J:=fx (fun k=>rn (q 0) (sub (p 0 k) 0 2)) (p 0).rows.length 0;cases O:decide (ixF (fun k=>rn (q 0) (sub (p 0 k) 0 2)) 0 (p 0).rows.length>=0)
  ·rw[J O];rfl
  ·rfl
 ·show Et _ p q [_,_,_,_,.i (k:Int)]=_;rw[abN];simp only[aE,cy hk,bn hk,aF hk U,g4];unfold rn;cases nT (sub (p 0 k) 0 2) [q 0 0 0] <;> rfl
 ·show Et _ p q [_,_,_,.i (p 0:Int),.i (p 0:Int)]=_;rw[abN];simp only[aE,bF]
abbrev aeO:=find [aiw,tL]
abbrev agZ:=[0,1,4]
theorem afa(N:Nat)(p q:b8):aZ f4 aeO N agZ Tryz.f128 rb [⟨sd (.sl 108),p⟩,⟨.one (.c (.fn 156 [.cptr [si,.sl 41,.sl 41,.sl 108,.sl 93,.sl 75,.sl 3,.sl 3,si] 0])),q⟩]=some (bo,
 ob (leI 0 (ixF (fun k=>rn (.l [[((q 0).rows.getD 0 []) 0]]) (sub ((p 0).rows.getD k []) 0 2)) 0 (p 0).rows.length))):=by kernel_rfl
def ais:Ent:=(128,e2 (sd (.sl 108)) (.one (.c (.fn 156 [.cptr [si,.sl 41,.sl 41,.sl 108,.sl 93,.sl 75,.sl 3,.sl 3,si] 0]))) fun p q=>(⟨rb,[.b (dK (fun J=>rn (q 0) (sub J 0 2)) (p 0))]⟩,true))
theorem agX:aw f4 ais:=bj fun p q h=>aq (N:=0) (ks:=agZ) (ap (fC ⟨agb,fC ⟨wa,fN⟩⟩)) Tryz.func128 fun hw=>by rw[afa];refine congrArg (fun x=>some (bo,ob x)) ?_;exact (iD (fun k=>rn (q 0) (sub (p 0 k) 0 2)) (p 0).rows.length 0).trans (by simp only[i9];rfl)
abbrev Zv:=find [te]
abbrev YJ:=[0,1,4,5,7,8,9,16]
def CH(N:Nat)(p q:b8):b8->Out:=bc f4 Zv N YJ Tryz.f234 ri [⟨sd (.sl 93),p⟩,⟨.one (.c (.fn 159 [.cptr [si,.sl 41,.sl 41,.sl 108,.sl 93,.sl 75,.sl 3,.sl 3,si] 0,.cptr [.sl 3] 0])),q⟩] 0
theorem abb(N:Nat)(p q:b8)(O U Y V J:D):(CH N p q) [O,U,Y,V,J] =
 bif ltI J.int V.int then nd (al J.int O.rows.length) (bif oh (sub (O.rows.getD J.int.toNat []) 0 4) [U.rows.getD 0 [] 0] [(U.rows.getD 0 []).tail 0] then some (1,[J])
 else nx [O,U,Y,V,.i (w64 (J.int+1))])
 else ex 0 [O,U,Y,V,J]:=by kernel_rfl
theorem ahH(N:Nat)(p q:b8):aZ f4 Zv N YJ Tryz.f234 ri [⟨sd (.sl 93),p⟩,⟨.one (.c (.fn 159 [.cptr [si,.sl 41,.sl 41,.sl 108,.sl 93,.sl 75,.sl 3,.sl 3,si] 0,.cptr [.sl 3] 0])),q⟩]=some (bo,
 (let J:=ba (CH N p q) N [p 0,q 0,.i 0,.i (p 0:Int),.i 0]
  nd J.isSome (bif J.code==1 then some (1,J.pay)
  else nd (J.code==2) (oi (-1))))):=by kernel_rfl
def rm(c:D)(r:b8):Bool:=oh r [c.rows.getD 0 [] 0] [(c.rows.getD 0 []).tail 0]
def afX:Ent:=(234,e2 (sd (.sl 93)) (.one (.c (.fn 159 [.cptr [si,.sl 41,.sl 41,.sl 108,.sl 93,.sl 75,.sl 3,.sl 3,si] 0,.cptr [.sl 3] 0]))) fun p q=>(⟨ri,[.i (ixF (fun k=>rm (q 0) (sub ((p 0).rows.getD k []) 0 4)) 0 (p 0).rows.length)]⟩,true))
theorem afi:aw f4 afX:=bj fun p q h=>aq (N:=(p 0).rows.length+1) (ks:=YJ) (ap (fC ⟨xw,fN⟩)) Tryz.func234 fun hw=>by
 rw[ahH];have U:=dY (hw ⟨sd (.sl 93),p⟩ (by simp));have e:=fK (L:=CH ((p 0).rows.length+1) p q) (fun k => [p 0,q 0,.i 0,.i (p 0:Int),.i (k:Int)]) (p 0).rows.length (fun k=>rm (q 0) (sub (p 0 k) 0 4)) [p 0,q 0,.i 0,.i (p 0:Int),.i (p 0:Int)] (fun k hk=>?_) ?_ (p 0).rows.length 0 ((p 0).rows.length+1) (by omega) (by omega)
 ·simp only[g9] at e;rw[e];have J:=fx (fun k=>rm (q 0) (sub (p 0 k) 0 4)) (p 0).rows.length 0;cases O:decide (ixF (fun k=>rm (q 0) (sub (p 0 k) 0 4)) 0 (p 0).rows.length>=0)
  ·rw[J O];rfl
  ·rfl
 ·show CH _ p q [_,_,_,_,.i (k:Int)]=_;rw[abb];simp only[aE,cy hk,bn hk,aF hk U,g4];unfold rm;cases oh (sub (p 0 k) 0 4) [q 0 0 0] [(q 0 0).tail 0] <;> rfl
 ·show CH _ p q [_,_,_,.i (p 0:Int),.i (p 0:Int)]=_;rw[abb];simp only[aE,bF]
abbrev agz:=find [afX,te]
abbrev aeC:=[0,1,4]
theorem aio(N:Nat)(p q:b8):aZ f4 agz N aeC Tryz.f158 rb [⟨sd (.sl 93),p⟩,⟨.one (.c (.fn 159 [.cptr [si,.sl 41,.sl 41,.sl 108,.sl 93,.sl 75,.sl 3,.sl 3,si] 0,.cptr [.sl 3] 0])),q⟩]=some (bo,
 ob (leI 0 (ixF (fun k=>rm (.l [[((q 0).rows.getD 0 []) 0,((q 0).rows.getD 0 []).tail 0]]) (sub ((p 0).rows.getD k []) 0 4)) 0 (p 0).rows.length))):=by kernel_rfl
def ail:Ent:=(158,e2 (sd (.sl 93)) (.one (.c (.fn 159 [.cptr [si,.sl 41,.sl 41,.sl 108,.sl 93,.sl 75,.sl 3,.sl 3,si] 0,.cptr [.sl 3] 0]))) fun p q=>(⟨rb,[.b (dK (fun J=>rm (q 0) (sub J 0 4)) (p 0))]⟩,true))
theorem afz:aw f4 ail:=bj fun p q h=>aq (N:=0) (ks:=aeC) (ap (fC ⟨afi,fC ⟨xw,fN⟩⟩)) Tryz.func158 fun hw=>by rw[aio];refine congrArg (fun x=>some (bo,ob x)) ?_;exact (iD (fun k=>rm (q 0) (sub (p 0 k) 0 4)) (p 0).rows.length 0).trans (by simp only[i9];rfl)
abbrev ln:=find [og,qf,jr,sZ,PU,fR,xY,gq,lQ,zt,yh]
abbrev lJ:=[0,1,2,3,4,5,6,7,41,69,74,85,90,103,108,135,140,150,1000041,1000069,1000074,1000085,1000090,1000103,1000108,1000135,1000140,1000150]
def ed(N:Nat)(p:b8):b8->Out:=bc f4 ln N lJ Tryz.f91 rb [⟨ag aK,p⟩] 0
def eu(N:Nat)(p:b8):b8->Out:=bc f4 ln N lJ Tryz.f91 rb [⟨ag aK,p⟩] 2
def eh(N:Nat)(p:b8):b8->Out:=bc f4 ln N lJ Tryz.f91 rb [⟨ag aK,p⟩] 4
def gp(N:Nat)(p:b8):b8->Out:=bc f4 ln N lJ Tryz.f91 rb [⟨ag aK,p⟩] 6
theorem GO(N:Nat)(p:b8)(x0 x1 x2 x3 x4 x5 x6 x7 x8 x9 a1 J V U O Z a3 a4 a0 Y a2:D):(ed N p) [x0,x1,x2,x3,x4,x5,x6,x7,x8,x9,a1,J,V,U,O,Z,a3,a4,a0,Y,a2] =
 bif ltI J.int O then nd (al J.int O.rows.length) (bif !(ax U (sub (O.rows.getD J.int.toNat []) 0 2)) then ob false
 else nx [x0,x1,x2,x3,x4,x5,x6,x7,x8,x9,a1,.i (w64 (J.int+1)),V,U,O,Z,a3,a4,a0,Y,a2])
 else ex 0 [x0,x1,x2,x3,x4,x5,x6,x7,x8,x9,a1,J,V,U,O,Z,a3,a4,a0,Y,a2]:=by kernel_rfl
theorem He(N:Nat)(p:b8)(x0 x1 x2 x3 x4 x5 x6 x7 x8 x9 a3 Y J a2 U a0 O a5 a1 V a4 Z:D):(eu N p) [x0,x1,x2,x3,x4,x5,x6,x7,x8,x9,a3,Y,J,a2,U,a0,O,a5,a1,V,a4,Z] =
 bif ltI J.int O then nd (al J.int O.rows.length) (bif !(ax U [(O.rows.getD J.int.toNat [] 0),.i (w64 ((O.rows.getD J.int.toNat [] 0).int+1))]) then ob false
 else nx [x0,x1,x2,x3,x4,x5,x6,x7,x8,x9,a3,Y,.i (w64 (J.int+1)),a2,U,a0,O,a5,a1,V,a4,Z])
 else ex 2 [x0,x1,x2,x3,x4,x5,x6,x7,x8,x9,a3,Y,J,a2,U,a0,O,a5,a1,V,a4,Z]:=by kernel_rfl
theorem Iu(N:Nat)(p:b8)(x0 x1 x2 x3 x4 x5 x6 x7 x8 x9 a3 a1 Z O a5 U a4 a6 J a0 Y V a2:D):(eh N p) [x0,x1,x2,x3,x4,x5,x6,x7,x8,x9,a3,a1,Z,O,a5,U,a4,a6,J,a0,Y,V,a2] =
 bif ltI O.int J then nd (al O.int J.rows.length) (bif !(ax U [(J.rows.getD O.int.toNat [] 1),(J.rows.getD O.int.toNat [] 2)]) then ob false
 else bif aA Y (J.rows.getD O.int.toNat [] 0).int then ob false
 else bif aA V (J.rows.getD O.int.toNat [] 0).int then ob false
 else nx [x0,x1,x2,x3,x4,x5,x6,x7,x8,x9,a3,a1,Z,.i (w64 (O.int+1)),a5,U,a4,a6,J,a0,Y,V,a2])
 else ex 4 [x0,x1,x2,x3,x4,x5,x6,x7,x8,x9,a3,a1,Z,O,a5,U,a4,a6,J,a0,Y,V,a2]:=by kernel_rfl
theorem Ha(N:Nat)(p:b8)(x0 x1 x2 x3 x4 x5 x6 x7 x8 x9 a4 a0 Y a3 O a1 a6 a7 a2 Z a5 J U V:D):(gp N p) [x0,x1,x2,x3,x4,x5,x6,x7,x8,x9,a4,a0,Y,a3,O,a1,a6,a7,a2,Z,a5,J,U,V] =
 bif ltI O.int J then nd (al O.int J.rows.length) (bif aA U (J.rows.getD O.int.toNat [] 0).int then ob false
 else nx [x0,x1,x2,x3,x4,x5,x6,x7,x8,x9,a4,a0,Y,a3,.i (w64 (O.int+1)),a1,a6,a7,a2,Z,a5,J,U,V])
 else ex 6 [x0,x1,x2,x3,x4,x5,x6,x7,x8,x9,a4,a0,Y,a3,O,a1,a6,a7,a2,Z,a5,J,U,V]:=by kernel_rfl
def Vy(N:Nat)(p:b8)(J:Out):Out:=nd (leI (J.pay 20) 1000000000) (ob (leI (w64 ((J.pay 18:Int)+(dD (J.pay 18) (J.pay 20) (J.pay 20).rows.length))) 60))
def mv(N:Nat)(p:b8)(J:Out):Out:=bif J.code==1 then some (1,J.pay) else nd (J.code==8) (bif fG (sub J.pay 15 9) then (Vy N p J) else ob false)
def mz(N:Nat)(p:b8)(J:Out):Out:=let O:Out:=ba (gp N p) N [J.pay 0,J.pay 1,J.pay 2,J.pay 3,J.pay 4,J.pay 5,J.pay 6,J.pay 7,J.pay 8,J.pay 9,J.pay 10,J.pay 11,J.pay 12,J.pay 13,.i 0,J.pay 14,J.pay 15,J.pay 16,J.pay 17,J.pay 18,J.pay 19,J.pay 20,J.pay 21,J.pay 22];nd O.isSome (mv N p O)
def mL(N:Nat)(p:b8)(J:Out):Out:=let O:Out:=ba (eh N p) N [J.pay 0,J.pay 1,J.pay 2,J.pay 3,J.pay 4,J.pay 5,J.pay 6,J.pay 7,J.pay 8,J.pay 9,J.pay 10,J.pay 11,J.pay 12,.i 0,J.pay 13,J.pay 14,J.pay 15,J.pay 16,J.pay 17,J.pay 18,J.pay 19,J.pay 20,J.pay 21];nd O.isSome (bif O.code==1 then some (1,O.pay) else nd (O.code==6) (mz N p O))
def mA(N:Nat)(p:b8)(J:Out):Out:=let O:Out:=ba (eu N p) N [J.pay 0,J.pay 1,J.pay 2,J.pay 3,J.pay 4,J.pay 5,J.pay 6,J.pay 7,J.pay 8,J.pay 9,J.pay 10,J.pay 11,.i 0,J.pay 12,J.pay 13,J.pay 14,J.pay 15,J.pay 16,J.pay 17,J.pay 18,J.pay 19,J.pay 20];nd O.isSome (bif O.code==1 then some (1,O.pay) else nd (O.code==4) (mL N p O))
def xp(N:Nat)(p:b8):Out:=let J:Out:=ba (ed N p) N [p 0,p 1,p 2,p 3,p 4,p 5,p 6,p 7,p 8,.i 0,.i 0,.i 0,p 0,p 1,p 2,p 3,p 4,p 5,p 6,p 7,p 8];nd J.isSome (bif J.code==1 then some (1,J.pay) else nd (J.code==2) (mA N p J))
def Hn(N:Nat)(p:b8):Out:=bif ltI 60 (p 7) then ob false else bif !(fM (p 6)) then ob false else bif !(fM (p 7)) then ob false else (xp N p)
def HG(N:Nat)(p:b8):Out:=bif ltI 60 (p 5) then ob false else bif ltI 60 (p 6) then ob false else (Hn N p)
def Hk(N:Nat)(p:b8):Out:=bif !(aR (p 4)) then ob false else bif !(inB (p 8).int 0 1000000) then ob false else (HG N p)
def Hf(N:Nat)(p:b8):Out:=bif !(aV (p 2)) then ob false else bif !(aN (p 3)) then ob false else (Hk N p)
def uk(N:Nat)(p:b8):Out:=bif !(inB (p 0).int 0 3) then ob false else bif !(aV (p 1)) then ob false else (Hf N p)
theorem Tu(N:Nat)(p:b8):aZ f4 ln N lJ Tryz.f91 rb [⟨ag aK,p⟩]=some (bo,(uk N p)):=by kernel_rfl
def nX(p:b8)(k:Nat):Bool:=ax (p 1) (sub ((p 2).rows.getD k []) 0 2)
def jY(p:b8)(k:Nat):Bool:=ax (p 1) [((p 3).rows.getD k []) 0,.i (w64 ((((p 3).rows.getD k []) 0).int+1))]
def hJ(p:b8)(k:Nat):Bool:=(ax (p 1) [((p 4).rows.getD k []) 1,((p 4).rows.getD k []) 2]&&(!aA (p 6) (((p 4).rows.getD k []) 0).int && !aA (p 7) (((p 4).rows.getD k []) 0).int))
def gy(p:b8)(k:Nat):Bool:= !aA (p 7) (((p 6).rows.getD k []) 0).int
def cx(p:b8)(f j:Nat)(C:b8->Nat->Bool):Bool:=(List.range (p f).rows.length).all (C p)
def ep(p:b8):Bool:=fG p&&leI ((p 3:Int)+dD (p 3) (p 5) (p 5).rows.length) 60
def aY(p:b8):Bool:=inB (p 0).int 0 3&&(aV (p 1)&&(aV (p 2)&&(aN (p 3)&&(aR (p 4)&&(inB (p 8).int 0 1000000&&(leI (p 5) 60&&(leI (p 6) 60&&(leI (p 7) 60&&(fM (p 6)&&(fM (p 7)&&(cx p 2 0 nX&&(cx p 3 2 jY&&(cx p 4 4 hJ&&(cx p 6 6 gy&&(ep p)))))))))))))))
theorem UN(p:b8)(N:Nat)(hN:(p 2).rows.length<N)(J:(p 2).rows.length<=9223372036854775807):ba (ed N p) N [p 0,p 1,p 2,p 3,p 4,p 5,p 6,p 7,p 8,.i 0,.i 0,.i 0,p 0,p 1,p 2,p 3,p 4,p 5,p 6,p 7,p 8]=some (bif cx p 2 0 nX then (2,[p 0,p 1,p 2,p 3,p 4,p 5,p 6,p 7,p 8,.i 0,.i 0,.i (p 2:Int),p 0,p 1,p 2,p 3,p 4,p 5,p 6,p 7,p 8]) else (1,[.b false])):=by
 have e:=cU (L:=ed N p) (fun k => [p 0,p 1,p 2,p 3,p 4,p 5,p 6,p 7,p 8,.i 0,.i 0,.i (k:Int),p 0,p 1,p 2,p 3,p 4,p 5,p 6,p 7,p 8]) (p 2).rows.length (nX p) [.b false] 0 (fun k hk=>?_) ?_ (N:=N) hN
 ·simp only[g9] at e;exact e
 ·show ed _ p [_,_,_,_,_,_,_,_,_,_,_,.i (k:Int),_,_,_,_,_,_,_,_,_]=_;rw[GO];simp only[aE,cy hk,bn hk,aF hk J,g4];unfold nX;cases ax (p 1) (sub (p 2 k) 0 2) <;> rfl
 ·show ed _ p [_,_,_,_,_,_,_,_,_,_,_,.i (p 2:Int),_,_,_,_,_,_,_,_,_]=_;rw[GO];simp only[aE,bF]
theorem Wp(p:b8)(N:Nat)(hN:(p 3).rows.length<N)(J:(p 3).rows.length<=9223372036854775807):ba (eu N p) N [p 0,p 1,p 2,p 3,p 4,p 5,p 6,p 7,p 8,.i 0,.i 0,.i (p 2:Int),.i 0,p 0,p 1,p 2,p 3,p 4,p 5,p 6,p 7,p 8]=some (bif cx p 3 2 jY then (4,[p 0,p 1,p 2,p 3,p 4,p 5,p 6,p 7,p 8,.i 0,.i 0,.i (p 2:Int),.i (p 3:Int),p 0,p 1,p 2,p 3,p 4,p 5,p 6,p 7,p 8]) else (1,[.b false])):=by
 have e:=cU (L:=eu N p) (fun k => [p 0,p 1,p 2,p 3,p 4,p 5,p 6,p 7,p 8,.i 0,.i 0,.i (p 2:Int),.i (k:Int),p 0,p 1,p 2,p 3,p 4,p 5,p 6,p 7,p 8]) (p 3).rows.length (jY p) [.b false] 2 (fun k hk=>?_) ?_ (N:=N) hN
 ·simp only[g9] at e;exact e
 ·show eu _ p [_,_,_,_,_,_,_,_,_,_,_,_,.i (k:Int),_,_,_,_,_,_,_,_,_]=_;rw[He];simp only[aE,cy hk,bn hk,aF hk J,g4];unfold jY;cases ax (p 1) [p 3 k 0,.i (w64 ((p 3 k 0).int+1))] <;> rfl
 ·show eu _ p [_,_,_,_,_,_,_,_,_,_,_,_,.i (p 3:Int),_,_,_,_,_,_,_,_,_]=_;rw[He];simp only[aE,bF]
theorem Vq(p:b8)(N:Nat)(hN:(p 4).rows.length<N)(J:(p 4).rows.length<=9223372036854775807):ba (eh N p) N [p 0,p 1,p 2,p 3,p 4,p 5,p 6,p 7,p 8,.i 0,.i 0,.i (p 2:Int),.i (p 3:Int),.i 0,p 0,p 1,p 2,p 3,p 4,p 5,p 6,p 7,p 8]=some (bif cx p 4 4 hJ then (6,[p 0,p 1,p 2,p 3,p 4,p 5,p 6,p 7,p 8,.i 0,.i 0,.i (p 2:Int),.i (p 3:Int),.i (p 4:Int),p 0,p 1,p 2,p 3,p 4,p 5,p 6,p 7,p 8]) else (1,[.b false])):=by
 have e:=cU (L:=eh N p) (fun k => [p 0,p 1,p 2,p 3,p 4,p 5,p 6,p 7,p 8,.i 0,.i 0,.i (p 2:Int),.i (p 3:Int),.i (k:Int),p 0,p 1,p 2,p 3,p 4,p 5,p 6,p 7,p 8]) (p 4).rows.length (hJ p) [.b false] 4 (fun k hk=>?_) ?_ (N:=N) hN
 ·simp only[g9] at e;exact e
 ·show eh _ p [_,_,_,_,_,_,_,_,_,_,_,_,_,.i (k:Int),_,_,_,_,_,_,_,_,_]=_;rw[Iu];simp only[aE,cy hk,bn hk,aF hk J,g4];unfold hJ;cases ax (p 1) [p 4 k 1,p 4 k 2] <;> cases aA (p 6) (p 4 k 0).int <;> cases aA (p 7) (p 4 k 0).int <;> rfl
 ·show eh _ p [_,_,_,_,_,_,_,_,_,_,_,_,_,.i (p 4:Int),_,_,_,_,_,_,_,_,_]=_;rw[Iu];simp only[aE,bF]
theorem Vb(p:b8)(N:Nat)(hN:(p 6).rows.length<N)(J:(p 6).rows.length<=9223372036854775807):ba (gp N p) N [p 0,p 1,p 2,p 3,p 4,p 5,p 6,p 7,p 8,.i 0,.i 0,.i (p 2:Int),.i (p 3:Int),.i (p 4:Int),.i 0,p 0,p 1,p 2,p 3,p 4,p 5,p 6,p 7,p 8]=some (bif cx p 6 6 gy then (8,[p 0,p 1,p 2,p 3,p 4,p 5,p 6,p 7,p 8,.i 0,.i 0,.i (p 2:Int),.i (p 3:Int),.i (p 4:Int),.i (p 6:Int),p 0,p 1,p 2,p 3,p 4,p 5,p 6,p 7,p 8]) else (1,[.b false])):=by
 have e:=cU (L:=gp N p) (fun k => [p 0,p 1,p 2,p 3,p 4,p 5,p 6,p 7,p 8,.i 0,.i 0,.i (p 2:Int),.i (p 3:Int),.i (p 4:Int),.i (k:Int),p 0,p 1,p 2,p 3,p 4,p 5,p 6,p 7,p 8]) (p 6).rows.length (gy p) [.b false] 6 (fun k hk=>?_) ?_ (N:=N) hN
 ·simp only[g9] at e;exact e
 ·show gp _ p [_,_,_,_,_,_,_,_,_,_,_,_,_,_,.i (k:Int),_,_,_,_,_,_,_,_,_]=_;rw[Ha];simp only[aE,cy hk,bn hk,aF hk J,g4];unfold gy;cases aA (p 7) (p 6 k 0).int <;> rfl
 ·show gp _ p [_,_,_,_,_,_,_,_,_,_,_,_,_,_,.i (p 6:Int),_,_,_,_,_,_,_,_,_]=_;rw[Ha];simp only[aE,bF]
theorem anu(n:Nat):ltI 60 (n:Int) = !leI (n:Int) 60:=by rw[p7];simp only[ltI,leI,f7,m6,y6];omega
theorem UH(p:b8)(N:Nat)(J:leI (p 5) 60=true)(O:aN (p 3)=true):mv N p (some (8,[p 0,p 1,p 2,p 3,p 4,p 5,p 6,p 7,p 8,.i 0,.i 0,.i (p 2:Int),.i (p 3:Int),.i (p 4:Int),.i (p 6:Int),p 0,p 1,p 2,p 3,p 4,p 5,p 6,p 7,p 8]))=ob (ep p):=by simp only[leI,f7] at J;have hs:=(dw O).len;have hn:=oC (p 3) (p 5) (p 5).rows.length;rw[show mv N p (some (8,[p 0,p 1,p 2,p 3,p 4,p 5,p 6,p 7,p 8,.i 0,.i 0,.i (p 2:Int),.i (p 3:Int),.i (p 4:Int),.i (p 6:Int),p 0,p 1,p 2,p 3,p 4,p 5,p 6,p 7,p 8]))=(bif fG p then nd (leI (p 5) 1000000000) (ob (leI (w64 ((p 3:Int)+dD (p 3) (p 5) (p 5).rows.length)) 60)) else ob false) from by kernel_rfl];rw[bb (show (p 5:Int)<=1000000000 from by omega),aP,br (by omega) (by omega)];unfold ep;cases fG p <;> rfl
theorem VI(p:b8)(N:Nat)(hN:((p 2).rows.length+(p 3).rows.length+(p 4).rows.length+(p 6).rows.length+1)<=N)(U:∀j,j ∈ [2,3,4,6]->(p j).rows.length<=9223372036854775807)(J:leI (p 5) 60=true)(O:aN (p 3)=true):mz N p (some (6,[p 0,p 1,p 2,p 3,p 4,p 5,p 6,p 7,p 8,.i 0,.i 0,.i (p 2:Int),.i (p 3:Int),.i (p 4:Int),p 0,p 1,p 2,p 3,p 4,p 5,p 6,p 7,p 8]))=ob (cx p 6 6 gy&&(ep p)):=by
 rw[show mz N p (some (6,[p 0,p 1,p 2,p 3,p 4,p 5,p 6,p 7,p 8,.i 0,.i 0,.i (p 2:Int),.i (p 3:Int),.i (p 4:Int),p 0,p 1,p 2,p 3,p 4,p 5,p 6,p 7,p 8]))=nd (ba (gp N p) N [p 0,p 1,p 2,p 3,p 4,p 5,p 6,p 7,p 8,.i 0,.i 0,.i (p 2:Int),.i (p 3:Int),.i (p 4:Int),.i 0,p 0,p 1,p 2,p 3,p 4,p 5,p 6,p 7,p 8]).isSome (mv N p (ba (gp N p) N [p 0,p 1,p 2,p 3,p 4,p 5,p 6,p 7,p 8,.i 0,.i 0,.i (p 2:Int),.i (p 3:Int),.i (p 4:Int),.i 0,p 0,p 1,p 2,p 3,p 4,p 5,p 6,p 7,p 8])) from by kernel_rfl];rw[Vb p N (by omega) (U 6 (by simp))];cases cx p 6 6 gy
 ·rfl
 ·show mv N p (some (8,[p 0,p 1,p 2,p 3,p 4,p 5,p 6,p 7,p 8,.i 0,.i 0,.i (p 2:Int),.i (p 3:Int),.i (p 4:Int),.i (p 6:Int),p 0,p 1,p 2,p 3,p 4,p 5,p 6,p 7,p 8]))=ob (true&&(ep p));rw[s8];exact UH p N J O
theorem Xl(p:b8)(N:Nat)(hN:((p 2).rows.length+(p 3).rows.length+(p 4).rows.length+(p 6).rows.length+1)<=N)(J:∀j,j ∈ [2,3,4,6]->(p j).rows.length<=9223372036854775807)(O:leI (p 5) 60=true)(U:aN (p 3)=true):mL N p (some (4,[p 0,p 1,p 2,p 3,p 4,p 5,p 6,p 7,p 8,.i 0,.i 0,.i (p 2:Int),.i (p 3:Int),p 0,p 1,p 2,p 3,p 4,p 5,p 6,p 7,p 8]))=ob (cx p 4 4 hJ&&(cx p 6 6 gy&&(ep p))):=by
 rw[show mL N p (some (4,[p 0,p 1,p 2,p 3,p 4,p 5,p 6,p 7,p 8,.i 0,.i 0,.i (p 2:Int),.i (p 3:Int),p 0,p 1,p 2,p 3,p 4,p 5,p 6,p 7,p 8]))=nd (ba (eh N p) N [p 0,p 1,p 2,p 3,p 4,p 5,p 6,p 7,p 8,.i 0,.i 0,.i (p 2:Int),.i (p 3:Int),.i 0,p 0,p 1,p 2,p 3,p 4,p 5,p 6,p 7,p 8]).isSome (bif Out.code (ba (eh N p) N [p 0,p 1,p 2,p 3,p 4,p 5,p 6,p 7,p 8,.i 0,.i 0,.i (p 2:Int),.i (p 3:Int),.i 0,p 0,p 1,p 2,p 3,p 4,p 5,p 6,p 7,p 8])==1 then some (1,Out.pay (ba (eh N p) N [p 0,p 1,p 2,p 3,p 4,p 5,p 6,p 7,p 8,.i 0,.i 0,.i (p 2:Int),.i (p 3:Int),.i 0,p 0,p 1,p 2,p 3,p 4,p 5,p 6,p 7,p 8])) else nd (Out.code (ba (eh N p) N [p 0,p 1,p 2,p 3,p 4,p 5,p 6,p 7,p 8,.i 0,.i 0,.i (p 2:Int),.i (p 3:Int),.i 0,p 0,p 1,p 2,p 3,p 4,p 5,p 6,p 7,p 8])==6) (mz N p (ba (eh N p) N [p 0,p 1,p 2,p 3,p 4,p 5,p 6,p 7,p 8,.i 0,.i 0,.i (p 2:Int),.i (p 3:Int),.i 0,p 0,p 1,p 2,p 3,p 4,p 5,p 6,p 7,p 8]))) from by kernel_rfl];rw[Vq p N (by omega) (J 4 (by simp))];cases cx p 4 4 hJ
 ·rfl
 ·show mz N p (some (6,[p 0,p 1,p 2,p 3,p 4,p 5,p 6,p 7,p 8,.i 0,.i 0,.i (p 2:Int),.i (p 3:Int),.i (p 4:Int),p 0,p 1,p 2,p 3,p 4,p 5,p 6,p 7,p 8]))=ob (true&&(cx p 6 6 gy&&(ep p)));rw[s8];exact VI p N hN J O U
theorem Vm(p:b8)(N:Nat)(hN:((p 2).rows.length+(p 3).rows.length+(p 4).rows.length+(p 6).rows.length+1)<=N)(J:∀j,j ∈ [2,3,4,6]->(p j).rows.length<=9223372036854775807)(O:leI (p 5) 60=true)(U:aN (p 3)=true):mA N p (some (2,[p 0,p 1,p 2,p 3,p 4,p 5,p 6,p 7,p 8,.i 0,.i 0,.i (p 2:Int),p 0,p 1,p 2,p 3,p 4,p 5,p 6,p 7,p 8]))=ob (cx p 3 2 jY&&(cx p 4 4 hJ&&(cx p 6 6 gy&&(ep p)))):=by
 rw[show mA N p (some (2,[p 0,p 1,p 2,p 3,p 4,p 5,p 6,p 7,p 8,.i 0,.i 0,.i (p 2:Int),p 0,p 1,p 2,p 3,p 4,p 5,p 6,p 7,p 8]))=nd (ba (eu N p) N [p 0,p 1,p 2,p 3,p 4,p 5,p 6,p 7,p 8,.i 0,.i 0,.i (p 2:Int),.i 0,p 0,p 1,p 2,p 3,p 4,p 5,p 6,p 7,p 8]).isSome (bif Out.code (ba (eu N p) N [p 0,p 1,p 2,p 3,p 4,p 5,p 6,p 7,p 8,.i 0,.i 0,.i (p 2:Int),.i 0,p 0,p 1,p 2,p 3,p 4,p 5,p 6,p 7,p 8])==1 then some (1,Out.pay (ba (eu N p) N [p 0,p 1,p 2,p 3,p 4,p 5,p 6,p 7,p 8,.i 0,.i 0,.i (p 2:Int),.i 0,p 0,p 1,p 2,p 3,p 4,p 5,p 6,p 7,p 8])) else nd (Out.code (ba (eu N p) N [p 0,p 1,p 2,p 3,p 4,p 5,p 6,p 7,p 8,.i 0,.i 0,.i (p 2:Int),.i 0,p 0,p 1,p 2,p 3,p 4,p 5,p 6,p 7,p 8])==4) (mL N p (ba (eu N p) N [p 0,p 1,p 2,p 3,p 4,p 5,p 6,p 7,p 8,.i 0,.i 0,.i (p 2:Int),.i 0,p 0,p 1,p 2,p 3,p 4,p 5,p 6,p 7,p 8]))) from by kernel_rfl];rw[Wp p N (by omega) (J 3 (by simp))];cases cx p 3 2 jY
 ·rfl
 ·show mL N p (some (4,[p 0,p 1,p 2,p 3,p 4,p 5,p 6,p 7,p 8,.i 0,.i 0,.i (p 2:Int),.i (p 3:Int),p 0,p 1,p 2,p 3,p 4,p 5,p 6,p 7,p 8]))=ob (true&&(cx p 4 4 hJ&&(cx p 6 6 gy&&(ep p))));rw[s8];exact Xl p N hN J O U
theorem WM(p:b8)(N:Nat)(hN:((p 2).rows.length+(p 3).rows.length+(p 4).rows.length+(p 6).rows.length+1)<=N)(J:∀j,j ∈ [2,3,4,6]->(p j).rows.length<=9223372036854775807)(O:leI (p 5) 60=true)(U:aN (p 3)=true):xp N p=ob (cx p 2 0 nX&&(cx p 3 2 jY&&(cx p 4 4 hJ&&(cx p 6 6 gy&&(ep p))))):=by
 rw[show xp N p=nd (ba (ed N p) N [p 0,p 1,p 2,p 3,p 4,p 5,p 6,p 7,p 8,.i 0,.i 0,.i 0,p 0,p 1,p 2,p 3,p 4,p 5,p 6,p 7,p 8]).isSome (bif Out.code (ba (ed N p) N [p 0,p 1,p 2,p 3,p 4,p 5,p 6,p 7,p 8,.i 0,.i 0,.i 0,p 0,p 1,p 2,p 3,p 4,p 5,p 6,p 7,p 8])==1 then some (1,Out.pay (ba (ed N p) N [p 0,p 1,p 2,p 3,p 4,p 5,p 6,p 7,p 8,.i 0,.i 0,.i 0,p 0,p 1,p 2,p 3,p 4,p 5,p 6,p 7,p 8])) else nd (Out.code (ba (ed N p) N [p 0,p 1,p 2,p 3,p 4,p 5,p 6,p 7,p 8,.i 0,.i 0,.i 0,p 0,p 1,p 2,p 3,p 4,p 5,p 6,p 7,p 8])==2) (mA N p (ba (ed N p) N [p 0,p 1,p 2,p 3,p 4,p 5,p 6,p 7,p 8,.i 0,.i 0,.i 0,p 0,p 1,p 2,p 3,p 4,p 5,p 6,p 7,p 8]))) from by kernel_rfl];rw[UN p N (by omega) (J 2 (by simp))];cases cx p 2 0 nX
 ·rfl
 ·show mA N p (some (2,[p 0,p 1,p 2,p 3,p 4,p 5,p 6,p 7,p 8,.i 0,.i 0,.i (p 2:Int),p 0,p 1,p 2,p 3,p 4,p 5,p 6,p 7,p 8]))=ob (true&&(cx p 3 2 jY&&(cx p 4 4 hJ&&(cx p 6 6 gy&&(ep p)))));rw[s8];exact Vm p N hN J O U
theorem eb{a g:Bool}{x:Out}(h:a=true->x=ob g):(bif !a then ob false else x)=ob (a&&g):=by
 cases a
 ·rfl
 ·exact h rfl
def jE:Ent:=(91,e1 (ag aK) fun p=>(⟨rb,[.b (aY p)]⟩,true))
theorem iN:aw f4 jE:=ck fun p h=>aq (N:=((p 2).rows.length+(p 3).rows.length+(p 4).rows.length+(p 6).rows.length+1)) (ks:=lJ) (ap (fC ⟨lN,fC ⟨rx,fC ⟨iB,fC ⟨tc,fC ⟨Vl,fC ⟨fB,fC ⟨wm,fC ⟨fP,fC ⟨jJ,fC ⟨IP,fC ⟨wE,fN⟩⟩⟩⟩⟩⟩⟩⟩⟩⟩⟩)) Tryz.func91 fun hw=>by
 rw[Tu];have O:∀j,j ∈ [2,3,4,6]->(p j).rows.length<=9223372036854775807:=by intro j J;simp only[A2,E3,or_false] at J;rcases J with rfl | rfl | rfl | rfl <;> exact aky (hw ⟨ag aK,p⟩ (by simp)) rfl
 refine congrArg (fun x=>some (bo,x)) ?_;show uk ((p 2).rows.length+(p 3).rows.length+(p 4).rows.length+(p 6).rows.length+1) p=ob (aY p);unfold uk Hf Hk HG Hn aY;simp only[anu];refine eb fun _=>?_
 refine eb fun _=>?_
 refine eb fun _=>?_
 refine eb fun U=>?_
 refine eb fun _=>?_
 refine eb fun _=>?_
 refine eb fun V=>?_
 refine eb fun _=>?_
 refine eb fun _=>?_
 refine eb fun _=>?_
 refine eb fun _=>?_
 exact WM p _ (g8 _) O V U
end Go.Proofs.YtpdfmcmnjikppaaGreat
namespace Go.Proofs
open Go.Shelf
def Tryz.lays189_ren:Go.Shelf.Ren:=⟨fun | 189=>161 | 125=>236 | 257=>235 | 128=>268 | 129=>269 | 294=>260 | 295=>261 | 296=>262 | 297=>263 | 298=>264 | 299=>265 | 216=>214 | 300=>266 | 301=>267 | 328=>287 | 329=>288 | 330=>289 | 331=>290 | 332=>291 | 215=>255 | 343=>298 | n=>n,fun | 28=>26 | 3=>3 | 46=>187 | 0=>0 | 51=>228 | 53=>230 | 4=>4 | 183=>222 | 182=>221 | 131=>128 | 5=>5 | 9=>9 | 218=>240 | 222=>244 | 228=>249 | 229=>250 | n=>n,fun | n=>n⟩
theorem Tryz.lays189:Go.Proofs.Lays.n189 Tryz.prog Tryz.lays189_ren:={ mixed:=by kernel_rfl,f125:=Tryz.func236.trans (congrArg some (by kernel_rfl)),f128:=Tryz.func268.trans (congrArg some (by kernel_rfl)),f129:=Tryz.func269.trans (congrArg some (by kernel_rfl)),f189:=Tryz.func161.trans (congrArg some (by kernel_rfl)),f215:=Tryz.func255.trans (congrArg some (by kernel_rfl)),f216:=Tryz.func214.trans (congrArg some (by kernel_rfl)),f257:=Tryz.func235.trans (congrArg some (by kernel_rfl)),f294:=Tryz.func260.trans (congrArg some (by kernel_rfl)),f295:=Tryz.func261.trans (congrArg some (by kernel_rfl)),f296:=Tryz.func262.trans (congrArg some (by kernel_rfl)),f297:=Tryz.func263.trans (congrArg some (by kernel_rfl)),f298:=Tryz.func264.trans (congrArg some (by kernel_rfl)),f299:=Tryz.func265.trans (congrArg some (by kernel_rfl)),f300:=Tryz.func266.trans (congrArg some (by kernel_rfl)),f301:=Tryz.func267.trans (congrArg some (by kernel_rfl)),f328:=Tryz.func287.trans (congrArg some (by kernel_rfl)),f329:=Tryz.func288.trans (congrArg some (by kernel_rfl)),f330:=Tryz.func289.trans (congrArg some (by kernel_rfl)),f331:=Tryz.func290.trans (congrArg some (by kernel_rfl)),f332:=Tryz.func291.trans (congrArg some (by kernel_rfl)),f343:=Tryz.func298.trans (congrArg some (by kernel_rfl)),t0:=Tryz.underlying0,a0:=Tryz.isAgg0,z0:=Tryz.sizeOf0,v0:=Tryz.zeroValue0,t3:=Tryz.underlying3,a3:=Tryz.isAgg3,z3:=Tryz.sizeOf3,v3:=Tryz.zeroValue3,t4:=Tryz.underlying4,a4:=Tryz.isAgg4,z4:=Tryz.sizeOf4,v4:=Tryz.zeroValue4,t5:=Tryz.underlying5,a5:=Tryz.isAgg5,z5:=Tryz.sizeOf5,v5:=Tryz.zeroValue5,t9:=Tryz.underlying9,a9:=Tryz.isAgg9,z9:=Tryz.sizeOf9,v9:=Tryz.zeroValue9,t28:=Tryz.underlying26,a28:=Tryz.isAgg26,z28:=Tryz.sizeOf26,v28:=Tryz.zeroValue26,t46:=Tryz.underlying187,a46:=Tryz.isAgg187,z46:=Tryz.sizeOf187,v46:=Tryz.zeroValue187,t51:=Tryz.underlying228,a51:=Tryz.isAgg228,z51:=Tryz.sizeOf228,v51:=Tryz.zeroValue228,t53:=Tryz.underlying230,a53:=Tryz.isAgg230,z53:=Tryz.sizeOf230,v53:=Tryz.zeroValue230,t131:=Tryz.underlying128,a131:=Tryz.isAgg128,z131:=Tryz.sizeOf128,v131:=Tryz.zeroValue128,t182:=Tryz.underlying221,a182:=Tryz.isAgg221,z182:=Tryz.sizeOf221,v182:=Tryz.zeroValue221,t183:=Tryz.underlying222,a183:=Tryz.isAgg222,z183:=Tryz.sizeOf222,v183:=Tryz.zeroValue222,t218:=Tryz.underlying240,a218:=Tryz.isAgg240,z218:=Tryz.sizeOf240,v218:=Tryz.zeroValue240,t222:=Tryz.underlying244,a222:=Tryz.isAgg244,z222:=Tryz.sizeOf244,v222:=Tryz.zeroValue244,t228:=Tryz.underlying249,a228:=Tryz.isAgg249,z228:=Tryz.sizeOf249,v228:=Tryz.zeroValue249,t229:=Tryz.underlying250,a229:=Tryz.isAgg250,z229:=Tryz.sizeOf250,v229:=Tryz.zeroValue250 }
def Tryz.laysNm220_ren:Go.Shelf.Ren:=⟨fun | 20=>162 | n=>n,fun | 22=>26 | 3=>3 | 4=>4 | 0=>0 | n=>n,fun | n=>n⟩
theorem Tryz.laysNm220:Go.Proofs.Lays2.n20 Tryz.prog Tryz.laysNm220_ren:={ mixed:=by kernel_rfl,f20:=Tryz.func162.trans (congrArg some (by kernel_rfl)),t0:=Tryz.underlying0,a0:=Tryz.isAgg0,z0:=Tryz.sizeOf0,v0:=Tryz.zeroValue0,t3:=Tryz.underlying3,a3:=Tryz.isAgg3,z3:=Tryz.sizeOf3,v3:=Tryz.zeroValue3,t4:=Tryz.underlying4,a4:=Tryz.isAgg4,z4:=Tryz.sizeOf4,v4:=Tryz.zeroValue4,t22:=Tryz.underlying26,a22:=Tryz.isAgg26,z22:=Tryz.sizeOf26,v22:=Tryz.zeroValue26,i3:=by kernel_rfl }
def Tryz.laysNm215_ren:Go.Shelf.Ren:=⟨fun | 15=>163 | n=>n,fun | 22=>26 | 3=>3 | 4=>4 | n=>n,fun | n=>n⟩
theorem Tryz.laysNm215:Go.Proofs.Lays2.n15 Tryz.prog Tryz.laysNm215_ren:={ mixed:=by kernel_rfl,f15:=Tryz.func163.trans (congrArg some (by kernel_rfl)),t3:=Tryz.underlying3,a3:=Tryz.isAgg3,z3:=Tryz.sizeOf3,v3:=Tryz.zeroValue3,t4:=Tryz.underlying4,a4:=Tryz.isAgg4,z4:=Tryz.sizeOf4,v4:=Tryz.zeroValue4,t22:=Tryz.underlying26,a22:=Tryz.isAgg26,z22:=Tryz.sizeOf26,v22:=Tryz.zeroValue26,i3:=by kernel_rfl }
def Tryz.growI_ren:Go.Shelf.Ren:=⟨fun | 4=>233 | n=>n,fun | 22=>26 | 25=>3 | 3=>3 | 4=>4 | 9=>9 | 20=>20 | 0=>0 | n=>n,fun | n=>n⟩
theorem Tryz.growI:Go.Proofs.Lays8.n4 Tryz.prog Tryz.growI_ren:={ mixed:=by kernel_rfl,f4:=⟨Tryz.f233.name,by decide,Tryz.func233.trans (congrArg some (by kernel_rfl))⟩,t0:=Tryz.underlying0,a0:=Tryz.isAgg0,z0:=Tryz.sizeOf0,v0:=Tryz.zeroValue0,t3:=Tryz.underlying3,a3:=Tryz.isAgg3,z3:=Tryz.sizeOf3,v3:=Tryz.zeroValue3,t4:=Tryz.underlying4,a4:=Tryz.isAgg4,z4:=Tryz.sizeOf4,v4:=Tryz.zeroValue4,t9:=Tryz.underlying9,a9:=Tryz.isAgg9,z9:=Tryz.sizeOf9,v9:=Tryz.zeroValue9,t20:=Tryz.underlying20,a20:=Tryz.isAgg20,z20:=Tryz.sizeOf20,v20:=Tryz.zeroValue20,t22:=Tryz.underlying26,a22:=Tryz.isAgg26,z22:=Tryz.sizeOf26,v22:=Tryz.zeroValue26 }
end Go.Proofs
end
