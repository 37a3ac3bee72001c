/-
 Texts of the proof,put together: part 5.
-/
import Derived.Test.YtpdfmcmnjikppaaGreatPR1
import Derived.Test.YtpdfmcmnjikppaaGreatPR2
import Derived.Test.YtpdfmcmnjikppaaGreatPR3
import Derived.Test.YtpdfmcmnjikppaaGreatPR4
import Derived.Test.YtpdfmcmnjikppaaGreatProg
import Derived.WalkKit
import Derived.ProofKit
import Derived.Shelf.RegionOpenPlain
import Derived.Deep.RegionLaw
import Derived.Deep.LoopGhost
import Derived.Lib.SliceRun
import Derived.Lib.AppendZerosOnto
import Derived.Lib.Hide
import Derived.Laws.IdiomCopy
import Derived.OwnWalk
import Derived.Shelf.Spec.SlicesInsert
import Derived.Shelf.Sort.Plain
import Derived.Shelf.Slices.In.SortNone
import Derived.Shelf.Slices.CompactI
import Derived.Shelf.Slices.Clone
import Derived.Shelf.Spec.SlicesGrow
set_option linter.unusedSimpArgs false
set_option linter.unusedVariables false
set_option linter.unusedSectionVars false
noncomputable section
namespace Go.Proofs.YtpdfmcmnjikppaaGreat
abbrev y6:=@List.pairwise_iff_getElem
abbrev y8:=@List.map_append
abbrev B7:=@List.mem_filter
abbrev B9:=@decide_eq_false_iff_not
abbrev C2:=@IntKind.wrap_i64
abbrev D1:=@List.mem_of_mem_drop
abbrev E5:=@List.filter_eq_nil_iff
abbrev E7:=@List.filter_append
abbrev F1:=@List.take_length
abbrev F2:=@World.frozen?_setCells
abbrev F4:=@World.cell?_setCells_out
abbrev G1:=@List.pairwise_append
abbrev G2:=@Nat.not_lt_zero
abbrev G4:=@List.filter_eq_self
abbrev G8:=@Bool.not_eq_true
abbrev G9:=@List.any_eq_false
abbrev H0:=@World.cell?_alloc_past
abbrev H3:=@List.take_append_drop
abbrev H5:=@List.pairwise_cons
abbrev H6:=@Nat.min_def
abbrev H8:=@Nat.lt_of_succ_lt
abbrev H9:=@List.take_add_one
abbrev I5:=@List.mem_iff_getElem
abbrev I6:=@Int.lt_trichotomy
abbrev J2:=@List.cons_append
abbrev K0:=@List.filter_map
abbrev L6:=@List.length_eq_zero_iff
abbrev M3:=@World.frozen?_alloc_at
abbrev M8:=@Array.getElem?_modify
abbrev M9:=@Array.getElem?_toList
abbrev N5:=@Bool.or_false
abbrev N6:=@List.map_take
abbrev N7:=@List.map_drop
abbrev N9:=@Nat.sub_mul
abbrev O0:=@World.cell?_alloc_at
abbrev O4:=@List.filter_nil
end Go.Proofs.YtpdfmcmnjikppaaGreat
namespace Go.Proofs.YtpdfmcmnjikppaaGreat
set_option maxRecDepth 4096
abbrev yI:=find [mJ]
abbrev xt:=[0,2,3,4,5,6,7,8,29]
def jM(N:Nat)(p:b8):b8->Out:=bb f8 yI N xt Tryz.f150 rb [⟨sd (.sl 41),p⟩] 0
theorem va(N:Nat)(p:b8)(J O y M x4:D):(jM N p) [J,O,y,M,x4] =
 bif ltI x4.int M.int then nd (ah x4.int y.rows.length) (bif !(ax (sub (y.rows.getD x4.int.toNat []) 0 2)) then ob false
 else bif ltI 0 x4.int then nd (ah (w64 (x4.int - 1)) J.rows.length) (bif ltI (gd (y.rows.getD x4.int.toNat []) 0).int (gd (J.rows.getD (w64 (x4.int - 1)).toNat []) 1).int then ob false
 else nx [J,O,y,M,.i (w64 (x4.int+1))])
 else nx [J,O,y,M,.i (w64 (x4.int+1))])
 else ex 0 [J,O,y,M,x4]:=by kernel_rfl
theorem QL(N:Nat)(p:b8):bf f8 yI N xt Tryz.f150 rb [⟨sd (.sl 41),p⟩]=some (bo,
 (let y:=aX (jM N p) N [gd p 0,.i 0,gd p 0,.i ((gd p 0).rows.length:Int),.i 0]
  nd y.isSome (bif y.code==1 then some (1,y.pay)
  else nd (y.code==2) (ob (leI ((gd y.pay 0).rows.length:Int) 16))))):=by kernel_rfl
def iA(z:D):Nat->Bool
 | 0=>ax (sub (z.rows.getD 0 []) 0 2)
 | k+1=>ax (sub (z.rows.getD (k+1) []) 0 2) && !ltI (gd (z.rows.getD (k+1) []) 0).int (gd (z.rows.getD k []) 1).int
def bB(z:D):Bool:=(List.range z.rows.length).all (iA z)&&leI (z.rows.length:Int) 16
def JT:Ent:=(150,e1 (sd (.sl 41)) fun p=>(⟨rb,[.b (bB (gd p 0))]⟩,true))
theorem Qp:ay f8 JT:=cK fun p h=>au (N:=(gd p 0).rows.length+1) (ks:=xt) (al (fC ⟨mv,fN⟩)) Tryz.func150 fun hw=>by
 rw[QL];have hl:=fi (hw ⟨sd (.sl 41),p⟩ (by simp));have e:=dE (L:=jM ((gd p 0).rows.length+1) p) (fun k => [gd p 0,.i 0,gd p 0,.i ((gd p 0).rows.length:Int),.i (k:Int)]) (gd p 0).rows.length (iA (gd p 0)) [.b false] 0 (fun k hk=>?_) ?_ (N:=((gd p 0).rows.length+1)) (by omega)
 ·simp only[j9] at e;rw[e];unfold bB;cases (List.range (gd p 0).rows.length).all (iA (gd p 0)) <;> rfl
 ·cases k with
  | zero =>show jM _ p [_,_,_,_,.i ((0:Nat):Int)]=_;rw[va];simp only[aA,di hk,bu hk,aG hk hl,g8,iS,CZ,iA];cases ax (sub ((gd p 0).rows.getD 0 []) 0 2) <;> rfl
  | succ k =>show jM _ p [_,_,_,_,.i ((k+1:Nat):Int)]=_;rw[va];simp only[aA,di hk,bu hk,aG hk hl,g8,iS,BE,qU (show k+1<=9223372036854775807 from by omega),bu (H8 hk),iA];cases ax (sub ((gd p 0).rows.getD (k+1) []) 0 2) <;> cases ltI (gd ((gd p 0).rows.getD (k+1) []) 0).int (gd ((gd p 0).rows.getD k []) 1).int <;> rfl
 ·show jM _ p [_,_,_,.i ((gd p 0).rows.length:Int),.i ((gd p 0).rows.length:Int)]=_;rw[va];simp only[aA,ca]
abbrev yH:=find [fD]
abbrev zr:=[0,2,3,6,10,36]
def jQ(N:Nat)(p:b8):b8->Out:=bb f8 yH N zr Tryz.f185 rb [⟨sd (.sl 41),p⟩] 0
theorem uL(N:Nat)(p:b8)(J M O y:D):(jQ N p) [J,M,O,y] =
 bif ltI y.int (J.rows.length:Int) then nd (ah y.int J.rows.length) (bif !(ax (sub (J.rows.getD y.int.toNat []) 0 2)) then ob false
 else bif ltI 0 y.int then nd (ah y.int J.rows.length) (nd (ah (w64 (y.int - 1)) J.rows.length) (bif ltI (gd (J.rows.getD y.int.toNat []) 0).int (gd (J.rows.getD (w64 (y.int - 1)).toNat []) 1).int then ob false
 else nx [J,M,O,.i (w64 (y.int+1))]))
 else nx [J,M,O,.i (w64 (y.int+1))])
 else ex 0 [J,M,O,y]:=by kernel_rfl
theorem Rh(N:Nat)(p:b8):bf f8 yH N zr Tryz.f185 rb [⟨sd (.sl 41),p⟩]=some (bo,
 bif ltI 16 ((gd p 0).rows.length:Int) then ob false
 else (let y:=aX (jQ N p) N [gd p 0,.i 0,.b (ltI 16 ((gd p 0).rows.length:Int)),.i 0]
  nd y.isSome (bif y.code==1 then some (1,y.pay)
  else nd (y.code==2) (ob true)))):=by kernel_rfl
def rI:Ent:=(185,e1 (sd (.sl 41)) fun p=>(⟨rb,[.b (bB (gd p 0))]⟩,true))
theorem sZ:ay f8 rI:=cK fun p h=>au (N:=(gd p 0).rows.length+1) (ks:=zr) (al (fC ⟨eA,fN⟩)) Tryz.func185 fun hw=>by
 rw[Rh];have hl:=fi (hw ⟨sd (.sl 41),p⟩ (by simp));unfold bB;by_cases y:(gd p 0).rows.length<=16
 ·rw[iI (show ((gd p 0).rows.length:Int)<=16 from by omega),bi (show ((gd p 0).rows.length:Int)<=16 from by omega),f9];have e:=dE (L:=jQ ((gd p 0).rows.length+1) p) (fun k => [gd p 0,.i 0,.b false,.i (k:Int)]) (gd p 0).rows.length (iA (gd p 0)) [.b false] 0 (fun k hk=>?_) ?_ (N:=((gd p 0).rows.length+1)) (by omega)
  ·simp only[j9] at e;rw[e];cases (List.range (gd p 0).rows.length).all (iA (gd p 0)) <;> rfl
  ·cases k with
   | zero =>show jQ _ p [_,_,_,.i ((0:Nat):Int)]=_;rw[uL];simp only[aA,di hk,bu hk,aG hk hl,g8,iS,CZ,iA];cases ax (sub ((gd p 0).rows.getD 0 []) 0 2) <;> rfl
   | succ k =>show jQ _ p [_,_,_,.i ((k+1:Nat):Int)]=_;rw[uL];simp only[aA,di hk,bu hk,aG hk hl,g8,iS,BE,qU (show k+1<=9223372036854775807 from by omega),bu (H8 hk),iA];cases ax (sub ((gd p 0).rows.getD (k+1) []) 0 2) <;> cases ltI (gd ((gd p 0).rows.getD (k+1) []) 0).int (gd ((gd p 0).rows.getD k []) 1).int <;> rfl
  ·show jQ _ p [_,_,_,.i ((gd p 0).rows.length:Int)]=_;rw[uL];simp only[aA,ca]
 ·rw[lp (show (16:Int)<((gd p 0).rows.length:Int) from by omega),FX (show (16:Int)<((gd p 0).rows.length:Int) from by omega),E4];rfl
abbrev Bs:=find [ED,Og]
abbrev Dm:=[0,2,3,4,5,6,7,8,36]
def lj(N:Nat)(p:b8):b8->Out:=bb f8 Bs N Dm Tryz.f127 rb [⟨sd (.sl 108),p⟩] 0
theorem zw(N:Nat)(p:b8)(J O y M x4:D):(lj N p) [J,O,y,M,x4] =
 bif ltI x4.int M.int then nd (ah x4.int y.rows.length) (bif !(inB (gd (y.rows.getD x4.int.toNat []) 0).int (0) (999)) then ob false
 else bif !(inB (gd (y.rows.getD x4.int.toNat []) 1).int (0) (1000000000)) then ob false
 else bif ltI 0 x4.int then nd (ah (w64 (x4.int - 1)) J.rows.length) (bif leI (gd (y.rows.getD x4.int.toNat []) 0).int (gd (J.rows.getD (w64 (x4.int - 1)).toNat []) 0).int then ob false
 else nx [J,O,y,M,.i (w64 (x4.int+1))])
 else nx [J,O,y,M,.i (w64 (x4.int+1))])
 else ex 0 [J,O,y,M,x4]:=by kernel_rfl
theorem Vv(N:Nat)(p:b8):bf f8 Bs N Dm Tryz.f127 rb [⟨sd (.sl 108),p⟩]=some (bo,
 (let y:=aX (lj N p) N [gd p 0,.i 0,gd p 0,.i ((gd p 0).rows.length:Int),.i 0]
  nd y.isSome (bif y.code==1 then some (1,y.pay)
  else nd (y.code==2) (ob (leI ((gd y.pay 0).rows.length:Int) 60))))):=by kernel_rfl
def storeAt(z:D):Nat->Bool
 | 0=>inB (gd (z.rows.getD 0 []) 0).int 0 999&&inB (gd (z.rows.getD 0 []) 1).int 0 1000000000
 | k+1=>inB (gd (z.rows.getD (k+1) []) 0).int 0 999&&(inB (gd (z.rows.getD (k+1) []) 1).int 0 1000000000 && !leI (gd (z.rows.getD (k+1) []) 0).int (gd (z.rows.getD k []) 0).int)
def aN(z:D):Bool:=(List.range z.rows.length).all (storeAt z)&&leI (z.rows.length:Int) 60
def qW:Ent:=(127,e1 (sd (.sl 108)) fun p=>(⟨rb,[.b (aN (gd p 0))]⟩,true))
theorem pM:ay f8 qW:=cK fun p h=>au (N:=(gd p 0).rows.length+1) (ks:=Dm) (al (fC ⟨NT,fC ⟨Ug,fN⟩⟩)) Tryz.func127 fun hw=>by
 rw[Vv];have hl:=fi (hw ⟨sd (.sl 108),p⟩ (by simp));have e:=dE (L:=lj ((gd p 0).rows.length+1) p) (fun k => [gd p 0,.i 0,gd p 0,.i ((gd p 0).rows.length:Int),.i (k:Int)]) (gd p 0).rows.length (storeAt (gd p 0)) [.b false] 0 (fun k hk=>?_) ?_ (N:=((gd p 0).rows.length+1)) (by omega)
 ·simp only[j9] at e;rw[e];unfold aN;cases (List.range (gd p 0).rows.length).all (storeAt (gd p 0)) <;> rfl
 ·cases k with
  | zero =>show lj _ p [_,_,_,_,.i ((0:Nat):Int)]=_;rw[zw];simp only[aA,di hk,bu hk,aG hk hl,g8,iS,CZ,storeAt];cases inB (gd ((gd p 0).rows.getD 0 []) 0).int 0 999 <;> cases inB (gd ((gd p 0).rows.getD 0 []) 1).int 0 1000000000 <;> rfl
  | succ k =>show lj _ p [_,_,_,_,.i ((k+1:Nat):Int)]=_;rw[zw];simp only[aA,di hk,bu hk,aG hk hl,g8,iS,BE,qU (show k+1<=9223372036854775807 from by omega),bu (H8 hk),storeAt];cases inB (gd ((gd p 0).rows.getD (k+1) []) 0).int 0 999 <;> cases inB (gd ((gd p 0).rows.getD (k+1) []) 1).int 0 1000000000 <;> cases leI (gd ((gd p 0).rows.getD (k+1) []) 0).int (gd ((gd p 0).rows.getD k []) 0).int <;> rfl
 ·show lj _ p [_,_,_,.i ((gd p 0).rows.length:Int),.i ((gd p 0).rows.length:Int)]=_;rw[zw];simp only[aA,ca]
abbrev Br:=find [zN,NN]
abbrev Ca:=[0,2,3,6,10,46]
def kW(N:Nat)(p:b8):b8->Out:=bb f8 Br N Ca Tryz.f122 rb [⟨sd (.sl 108),p⟩] 0
theorem zb(N:Nat)(p:b8)(J M O y:D):(kW N p) [J,M,O,y] =
 bif ltI y.int (J.rows.length:Int) then nd (ah y.int J.rows.length) (bif !(inB (gd (J.rows.getD y.int.toNat []) 0).int (0) (999)) then ob false
 else nd (ah y.int J.rows.length) (bif !(inB (gd (J.rows.getD y.int.toNat []) 1).int (0) (1000000000)) then ob false
 else bif ltI 0 y.int then nd (ah (w64 (y.int - 1)) J.rows.length) (nd (ah y.int J.rows.length) (bif leI (gd (J.rows.getD y.int.toNat []) 0).int (gd (J.rows.getD (w64 (y.int - 1)).toNat []) 0).int then ob false
 else nx [J,M,O,.i (w64 (y.int+1))]))
 else nx [J,M,O,.i (w64 (y.int+1))]))
 else ex 0 [J,M,O,y]:=by kernel_rfl
theorem UW(N:Nat)(p:b8):bf f8 Br N Ca Tryz.f122 rb [⟨sd (.sl 108),p⟩]=some (bo,
 bif ltI 60 ((gd p 0).rows.length:Int) then ob false
 else (let y:=aX (kW N p) N [gd p 0,.i 0,.b (ltI 60 ((gd p 0).rows.length:Int)),.i 0]
  nd y.isSome (bif y.code==1 then some (1,y.pay)
  else nd (y.code==2) (ob true)))):=by kernel_rfl
def kH:Ent:=(122,e1 (sd (.sl 108)) fun p=>(⟨rb,[.b (aN (gd p 0))]⟩,true))
theorem jC:ay f8 kH:=cK fun p h=>au (N:=(gd p 0).rows.length+1) (ks:=Ca) (al (fC ⟨JB,fC ⟨TD,fN⟩⟩)) Tryz.func122 fun hw=>by
 rw[UW];have hl:=fi (hw ⟨sd (.sl 108),p⟩ (by simp));unfold aN;by_cases y:(gd p 0).rows.length<=60
 ·rw[iI (show ((gd p 0).rows.length:Int)<=60 from by omega),bi (show ((gd p 0).rows.length:Int)<=60 from by omega),f9];have e:=dE (L:=kW ((gd p 0).rows.length+1) p) (fun k => [gd p 0,.i 0,.b false,.i (k:Int)]) (gd p 0).rows.length (storeAt (gd p 0)) [.b false] 0 (fun k hk=>?_) ?_ (N:=((gd p 0).rows.length+1)) (by omega)
  ·simp only[j9] at e;rw[e];cases (List.range (gd p 0).rows.length).all (storeAt (gd p 0)) <;> rfl
  ·cases k with
   | zero =>show kW _ p [_,_,_,.i ((0:Nat):Int)]=_;rw[zb];simp only[aA,di hk,bu hk,aG hk hl,g8,iS,CZ,storeAt];cases inB (gd ((gd p 0).rows.getD 0 []) 0).int 0 999 <;> cases inB (gd ((gd p 0).rows.getD 0 []) 1).int 0 1000000000 <;> rfl
   | succ k =>show kW _ p [_,_,_,.i ((k+1:Nat):Int)]=_;rw[zb];simp only[aA,di hk,bu hk,aG hk hl,g8,iS,BE,qU (show k+1<=9223372036854775807 from by omega),bu (H8 hk),storeAt];cases inB (gd ((gd p 0).rows.getD (k+1) []) 0).int 0 999 <;> cases inB (gd ((gd p 0).rows.getD (k+1) []) 1).int 0 1000000000 <;> cases leI (gd ((gd p 0).rows.getD (k+1) []) 0).int (gd ((gd p 0).rows.getD k []) 0).int <;> rfl
  ·show kW _ p [_,_,_,.i ((gd p 0).rows.length:Int)]=_;rw[zb];simp only[aA,ca]
 ·rw[lp (show (60:Int)<((gd p 0).rows.length:Int) from by omega),FX (show (60:Int)<((gd p 0).rows.length:Int) from by omega),E4];rfl
abbrev wb:=find [Ab]
abbrev vU:=[0,2,3,4,5,6,7,8,27]
def iO(N:Nat)(p:b8):b8->Out:=bb f8 wb N vU Tryz.f153 rb [⟨sd (.sl 3),p⟩] 0
theorem sJ(N:Nat)(p:b8)(J O y M x4:D):(iO N p) [J,O,y,M,x4] =
 bif ltI x4.int M.int then nd (ah x4.int y.rows.length) (bif !(inB (gd (y.rows.getD x4.int.toNat []) 0).int 1 60) then ob false
 else bif ltI 0 x4.int then nd (ah (w64 (x4.int - 1)) J.rows.length) (bif leI (gd (y.rows.getD x4.int.toNat []) 0).int (gd (J.rows.getD (w64 (x4.int - 1)).toNat []) 0).int then ob false
 else nx [J,O,y,M,.i (w64 (x4.int+1))])
 else nx [J,O,y,M,.i (w64 (x4.int+1))])
 else ex 0 [J,O,y,M,x4]:=by kernel_rfl
theorem Oy(N:Nat)(p:b8):bf f8 wb N vU Tryz.f153 rb [⟨sd (.sl 3),p⟩]=some (bo,
 (let y:=aX (iO N p) N [gd p 0,.i 0,gd p 0,.i ((gd p 0).rows.length:Int),.i 0]
  nd y.isSome (bif y.code==1 then some (1,y.pay)
  else nd (y.code==2) (ob true)))):=by kernel_rfl
def mE(z:D):Nat->Bool
 | 0=>inB (gd (z.rows.getD 0 []) 0).int 1 60
 | k+1=>inB (gd (z.rows.getD (k+1) []) 0).int 1 60 && !leI (gd (z.rows.getD (k+1) []) 0).int (gd (z.rows.getD k []) 0).int
def gF(z:D):Bool:=(List.range z.rows.length).all (mE z)
def vS:Ent:=(153,e1 (sd (.sl 3)) fun p=>(⟨rb,[.b (gF (gd p 0))]⟩,true))
theorem xL:ay f8 vS:=cK fun p h=>au (N:=(gd p 0).rows.length+1) (ks:=vU) (al (fC ⟨tM,fN⟩)) Tryz.func153 fun hw=>by
 rw[Oy];have hl:=fi (hw ⟨sd (.sl 3),p⟩ (by simp));have e:=dE (L:=iO ((gd p 0).rows.length+1) p) (fun k => [gd p 0,.i 0,gd p 0,.i ((gd p 0).rows.length:Int),.i (k:Int)]) (gd p 0).rows.length (mE (gd p 0)) [.b false] 0 (fun k hk=>?_) ?_ (N:=((gd p 0).rows.length+1)) (by omega)
 ·simp only[j9] at e;rw[e];unfold gF;cases (List.range (gd p 0).rows.length).all (mE (gd p 0)) <;> rfl
 ·cases k with
  | zero =>show iO _ p [_,_,_,_,.i ((0:Nat):Int)]=_;rw[sJ];simp only[aA,di hk,bu hk,aG hk hl,g8,iS,CZ,mE];cases inB (gd ((gd p 0).rows.getD 0 []) 0).int 1 60 <;> rfl
  | succ k =>show iO _ p [_,_,_,_,.i ((k+1:Nat):Int)]=_;rw[sJ];simp only[aA,di hk,bu hk,aG hk hl,g8,iS,BE,qU (show k+1<=9223372036854775807 from by omega),bu (H8 hk),mE];cases inB (gd ((gd p 0).rows.getD (k+1) []) 0).int 1 60 <;> cases leI (gd ((gd p 0).rows.getD (k+1) []) 0).int (gd ((gd p 0).rows.getD k []) 0).int <;> rfl
 ·show iO _ p [_,_,_,.i ((gd p 0).rows.length:Int),.i ((gd p 0).rows.length:Int)]=_;rw[sJ];simp only[aA,ca]
abbrev Hm:=find [ou]
abbrev Hd:=[0,2,3,7,31]
def mO(N:Nat)(p:b8):b8->Out:=bb f8 Hm N Hd Tryz.f199 rb [⟨sd (.sl 3),p⟩] 0
theorem Ch(N:Nat)(p:b8)(J M y:D):(mO N p) [J,M,y] =
 bif ltI y.int (J.rows.length:Int) then nd (ah y.int J.rows.length) (bif !(inB (gd (J.rows.getD y.int.toNat []) 0).int 1 60) then ob false
 else bif ltI 0 y.int then nd (ah (w64 (y.int - 1)) J.rows.length) (nd (ah y.int J.rows.length) (bif leI (gd (J.rows.getD y.int.toNat []) 0).int (gd (J.rows.getD (w64 (y.int - 1)).toNat []) 0).int then ob false
 else nx [J,M,.i (w64 (y.int+1))]))
 else nx [J,M,.i (w64 (y.int+1))])
 else ex 0 [J,M,y]:=by kernel_rfl
theorem WS(N:Nat)(p:b8):bf f8 Hm N Hd Tryz.f199 rb [⟨sd (.sl 3),p⟩]=some (bo,
 (let y:=aX (mO N p) N [gd p 0,.i 0,.i 0]
  nd y.isSome (bif y.code==1 then some (1,y.pay)
  else nd (y.code==2) (ob true)))):=by kernel_rfl
def RB:Ent:=(199,e1 (sd (.sl 3)) fun p=>(⟨rb,[.b (gF (gd p 0))]⟩,true))
theorem WI:ay f8 RB:=cK fun p h=>au (N:=(gd p 0).rows.length+1) (ks:=Hd) (al (fC ⟨kD,fN⟩)) Tryz.func199 fun hw=>by
 rw[WS];have hl:=fi (hw ⟨sd (.sl 3),p⟩ (by simp));have e:=dE (L:=mO ((gd p 0).rows.length+1) p) (fun k => [gd p 0,.i 0,.i (k:Int)]) (gd p 0).rows.length (mE (gd p 0)) [.b false] 0 (fun k hk=>?_) ?_ (N:=((gd p 0).rows.length+1)) (by omega)
 ·simp only[j9] at e;rw[e];unfold gF;cases (List.range (gd p 0).rows.length).all (mE (gd p 0)) <;> rfl
 ·cases k with
  | zero =>show mO _ p [_,_,.i ((0:Nat):Int)]=_;rw[Ch];simp only[aA,di hk,bu hk,aG hk hl,g8,iS,CZ,mE];cases inB (gd ((gd p 0).rows.getD 0 []) 0).int 1 60 <;> rfl
  | succ k =>show mO _ p [_,_,.i ((k+1:Nat):Int)]=_;rw[Ch];simp only[aA,di hk,bu hk,aG hk hl,g8,iS,BE,qU (show k+1<=9223372036854775807 from by omega),bu (H8 hk),mE];cases inB (gd ((gd p 0).rows.getD (k+1) []) 0).int 1 60 <;> cases leI (gd ((gd p 0).rows.getD (k+1) []) 0).int (gd ((gd p 0).rows.getD k []) 0).int <;> rfl
 ·show mO _ p [_,_,.i ((gd p 0).rows.length:Int)]=_;rw[Ch];simp only[aA,ca]
def afc(z:D):Nat->D
 | 0=>.i 0
 | k+1=>gd (z.rows.getD k []) 1
abbrev Dj:=find [Ab,Gi,mJ,zD,afK]
abbrev BZ:=[0,2,3,4,5,6,7,8,34]
def oc(N:Nat)(p:b8):b8->Out:=bb f8 Dj N BZ Tryz.f151 rb [⟨sd (.sl 93),p⟩] 0
theorem Jw(N:Nat)(p:b8)(J O y M x4:D):(oc N p) [J,O,y,M,x4] =
 bif ltI x4.int M.int then nd (ah x4.int y.rows.length) (bif !(inB (gd (y.rows.getD x4.int.toNat []) 0).int 1 60) then ob false
 else bif !(ax [(gd (y.rows.getD x4.int.toNat []) 1),(gd (y.rows.getD x4.int.toNat []) 2)]) then ob false
 else bif !(dn [(gd (y.rows.getD x4.int.toNat []) 3)]) then ob false
 else nd (leI 0 0&&leI 0 x4.int&&leI x4.int (J.rows.length:Int)) (bif eL (fun r=>sI (.l [[.l [sub (y.rows.getD x4.int.toNat []) 0 4]]]) (sub r 0 4)) (.l (J.rows.take x4.int.toNat)) then ob false
 else nx [J,O,y,M,.i (w64 (x4.int+1))]))
 else ex 0 [J,O,y,M,x4]:=by kernel_rfl
theorem Vm(N:Nat)(p:b8):bf f8 Dj N BZ Tryz.f151 rb [⟨sd (.sl 93),p⟩]=some (bo,
 (let y:=aX (oc N p) N [gd p 0,.i 0,gd p 0,.i ((gd p 0).rows.length:Int),.i 0]
  nd y.isSome (bif y.code==1 then some (1,y.pay)
  else nd (y.code==2) (ob (leI ((gd y.pay 0).rows.length:Int) 40))))):=by kernel_rfl
def ma(z:D)(k:Nat):Bool:=inB (gd (z.rows.getD k []) 0).int 1 60&&(ax [gd (z.rows.getD k []) 1,gd (z.rows.getD k []) 2]&&(dn [gd (z.rows.getD k []) 3] && !(List.range k).any fun j=>cX (z.rows.getD k []) (z.rows.getD j [])))
def aY(z:D):Bool:=(List.range z.rows.length).all (ma z)&&leI (z.rows.length:Int) 40
def ng:Ent:=(151,e1 (sd (.sl 93)) fun p=>(⟨rb,[.b (aY (gd p 0))]⟩,true))
theorem lP:ay f8 ng:=cK fun p h=>au (N:=(gd p 0).rows.length+1) (ks:=BZ) (al (fC ⟨tM,fC ⟨BM,fC ⟨mv,fC ⟨yv,fC ⟨aiN,fN⟩⟩⟩⟩⟩)) Tryz.func151 fun hw=>by
 rw[Vm];have hl:=fi (hw ⟨sd (.sl 93),p⟩ (by simp));have e:=dE (L:=oc ((gd p 0).rows.length+1) p) (fun k => [gd p 0,.i 0,gd p 0,.i ((gd p 0).rows.length:Int),.i (k:Int)]) (gd p 0).rows.length (ma (gd p 0)) [.b false] 0 (fun k hk=>?_) ?_ (N:=(gd p 0).rows.length+1) (by omega)
 ·simp only[j9] at e;rw[e];unfold aY;cases (List.range (gd p 0).rows.length).all (ma (gd p 0)) <;> rfl
 ·show oc _ p [_,_,_,_,.i (k:Int)]=_;rw[Jw];simp only[aA,di hk,bu hk,aG hk hl,g8,ajo (Nat.le_of_lt hk),adG (Nat.le_of_lt hk),ma];rw[show ((List.range k).any fun j=>sI (.l [[.l [sub ((gd p 0).rows.getD k []) 0 4]]]) (sub ((gd p 0).rows.getD j []) 0 4))=(List.range k).any fun j=>cX ((gd p 0).rows.getD k []) ((gd p 0).rows.getD j []) from rfl];cases inB (gd ((gd p 0).rows.getD k []) 0).int 1 60 <;> cases ax [gd ((gd p 0).rows.getD k []) 1,gd ((gd p 0).rows.getD k []) 2] <;> cases dn [gd ((gd p 0).rows.getD k []) 3] <;> cases (List.range k).any fun j=>cX ((gd p 0).rows.getD k []) ((gd p 0).rows.getD j []) <;> rfl
 ·show oc _ p [_,_,_,.i ((gd p 0).rows.length:Int),.i ((gd p 0).rows.length:Int)]=_;rw[Jw];simp only[aA,ca]
abbrev vh:=find [ou,ig,fD,Ct,xB]
abbrev vA:=[0,2,3,4,7,11,38,41,52]
def oq(N:Nat)(p:b8):b8->Out:=bb f8 vh N vA Tryz.f167 rb [⟨sd (.sl 93),p⟩] 0
def oJ(N:Nat)(p:b8):b8->Out:=bb f8 vh N vA Tryz.f167 rb [⟨sd (.sl 93),p⟩] 2
theorem Jr(N:Nat)(p:b8)(y O U J:D):(oq N p) [y,O,U,J] =
 bif ltI J.int (y.rows.length:Int) then nd (ah J.int y.rows.length) (bif !(inB (gd (y.rows.getD J.int.toNat []) 0).int 1 60) then ob false
 else nd (ah J.int y.rows.length) (bif !(ax [(gd (y.rows.getD J.int.toNat []) 1),(gd (y.rows.getD J.int.toNat []) 2)]) then ob false
 else nd (ah J.int y.rows.length) (bif !(nc [(gd (y.rows.getD J.int.toNat []) 3)]) then ob false
 else (let M:=aX (oJ N p) N [y,O,U,J,.b (ltI J.int (y.rows.length:Int)),.b (!(nc [(gd (y.rows.getD J.int.toNat []) 3)])),.i 0]
  nd M.isSome (bif M.code==1 then some (1,M.pay)
  else nd (M.code==4) (nx [gd M.pay 0,gd M.pay 1,gd M.pay 2,.i (w64 ((gd M.pay 3).int+1))]))))))
 else ex 0 [y,O,U,J]:=by kernel_rfl
theorem Jg(N:Nat)(p:b8)(y M O J x4 U x6:D):(oJ N p) [y,M,O,J,x4,U,x6] =
 bif ltI x6.int J.int then nd (ah J.int y.rows.length) (nd (ah x6.int y.rows.length) (bif lO (sub (y.rows.getD J.int.toNat []) 0 4) (sub (y.rows.getD x6.int.toNat []) 0 4) then ob false
 else nx [y,M,O,J,x4,U,.i (w64 (x6.int+1))]))
 else ex 2 [y,M,O,J,x4,U,x6]:=by kernel_rfl
theorem Vj(N:Nat)(p:b8):bf f8 vh N vA Tryz.f167 rb [⟨sd (.sl 93),p⟩]=some (bo,
 bif ltI 40 ((gd p 0).rows.length:Int) then ob false
 else (let y:=aX (oq N p) N [gd p 0,.i 0,.b (ltI 40 ((gd p 0).rows.length:Int)),.i 0]
  nd y.isSome (bif y.code==1 then some (1,y.pay)
  else nd (y.code==2) (ob true)))):=by kernel_rfl
def rB(z:D)(k:Nat):Bool:=inB (gd (z.rows.getD k []) 0).int 1 60&&(ax [gd (z.rows.getD k []) 1,gd (z.rows.getD k []) 2]&&(dn [gd (z.rows.getD k []) 3]&&(List.range k).all fun j => !lO (z.rows.getD k []) (z.rows.getD j [])))
theorem ZG(z:D)(n:Nat):(List.range n).all (rB z)=(List.range n).all (ma z):=by
 rw[y0];simp only[i9,m7];have y:∀ {k},(rB z k=true\/ma z k=true)->ax [gd (z.rows.getD k []) 1,gd (z.rows.getD k []) 2]=true:=fun h=>by
  rcases h with h | h
  ·simp only[rB,a9] at h;exact h.2.1
  ·simp only[ma,a9] at h;exact h.2.1
 constructor
 ·intro h k hk;have a:=h k hk;have M:=y (.inl a);simp only[rB,a9,i9,m7,o8] at a;simp only[ma,a9,o8,G9,m7,G8];refine⟨a.1,a.2.1,a.2.2.1,fun j J=>?_⟩;rw[<- GK M (y (.inl (h j (by omega))))];exact a.2.2.2 j J
 ·intro h k hk;have a:=h k hk;have M:=y (.inr a);simp only[ma,a9,o8,G9,m7,G8] at a;simp only[rB,a9,i9,m7,o8];refine⟨a.1,a.2.1,a.2.2.1,fun j J=>?_⟩;rw[GK M (y (.inr (h j (by omega))))];exact a.2.2.2 j J
def Bv:Ent:=(167,e1 (sd (.sl 93)) fun p=>(⟨rb,[.b (aY (gd p 0))]⟩,true))
theorem Dx:ay f8 Bv:=cK fun p h=>au (N:=(gd p 0).rows.length+1) (ks:=vA) (al (fC ⟨kD,fC ⟨gL,fC ⟨eA,fC ⟨FM,fC ⟨Bf,fN⟩⟩⟩⟩⟩)) Tryz.func167 fun hw=>by
 rw[Vj];have hl:=fi (hw ⟨sd (.sl 93),p⟩ (by simp));unfold aY;rw[<- ZG];by_cases J:(gd p 0).rows.length<=40
 ·rw[iI (show ((gd p 0).rows.length:Int)<=40 from by omega),bi (show ((gd p 0).rows.length:Int)<=40 from by omega),f9];have e:=dE (L:=oq ((gd p 0).rows.length+1) p) (fun k => [gd p 0,.i 0,.b false,.i (k:Int)]) (gd p 0).rows.length (rB (gd p 0)) [.b false] 0 (fun k hk=>?_) ?_ (N:=(gd p 0).rows.length+1) (by omega)
  ·simp only[j9] at e;rw[e];cases (List.range (gd p 0).rows.length).all (rB (gd p 0)) <;> rfl
  ·show oq _ p [_,_,_,.i (k:Int)]=_;rw[Jr];simp only[aA,gy hk,g6,bu hk,g8,rB,show nc [gd ((gd p 0).rows.getD k []) 3]=dn [gd ((gd p 0).rows.getD k []) 3] from rfl];cases inB (gd ((gd p 0).rows.getD k []) 0).int 1 60
   ·rfl
   cases ax [gd ((gd p 0).rows.getD k []) 1,gd ((gd p 0).rows.getD k []) 2]
   ·rfl
   cases dn [gd ((gd p 0).rows.getD k []) 3]
   ·rfl
   have e2:=dE (L:=oJ ((gd p 0).rows.length+1) p) (fun j => [gd p 0,.i 0,.b false,.i (k:Int),.b true,.b false,.i (j:Int)]) k (fun j => !lO ((gd p 0).rows.getD k []) ((gd p 0).rows.getD j [])) [.b false] 2 (fun j y=>?_) ?_ (N:=(gd p 0).rows.length+1) (by omega)
   ·simp only[j9] at e2;simp only[n4,f9,e2,y7];cases (List.range k).all fun j => !lO ((gd p 0).rows.getD k []) ((gd p 0).rows.getD j [])
    ·rfl
    ·simp only[nd,g6,f9,B1,Out.code,Out.pay,z6,aq,ap,Nat.reduceBEq,Nat.reduceAdd,aA,kK,ye,bd,n4,A4,s9,aG hk hl]
   ·show oJ _ p [_,_,_,.i (k:Int),_,_,.i (j:Int)]=_;rw[Jg];simp only[aA,di y,bu hk,bu (Nat.lt_trans y hk),aG y (show k<=9223372036854775807 from by omega),g8];rw[show lO (sub ((gd p 0).rows.getD k []) 0 4) (sub ((gd p 0).rows.getD j []) 0 4)=lO ((gd p 0).rows.getD k []) ((gd p 0).rows.getD j []) from rfl];cases lO ((gd p 0).rows.getD k []) ((gd p 0).rows.getD j []) <;> rfl
   ·show oJ _ p [_,_,_,.i (k:Int),_,_,.i (k:Int)]=_;rw[Jg];simp only[aA,ca]
  ·show oq _ p [_,_,_,.i ((gd p 0).rows.length:Int)]=_;rw[Jr];simp only[aA,ca]
 ·rw[lp (show (40:Int)<((gd p 0).rows.length:Int) from by omega),FX (show (40:Int)<((gd p 0).rows.length:Int) from by omega),E4];rfl
abbrev Dg:=find []
theorem Qz:av f8 Dg:=al (fN)
abbrev BO:=[0,1,3,4,5,7,10,11,12,13,25]
def ov(N:Nat)(p q:b8):b8->Out:=bb f8 Dg N BO Tryz.f75 rb [⟨sd (.sl 41),p⟩,⟨ag aI,q⟩] 0
theorem Jf(N:Nat)(p q:b8)(U V Z W x4 O x6 M y Y J:D):(ov N p q) [U,V,Z,W,x4,O,x6,M,y,Y,J] =
 bif ltI y.int M.int then nd (ah y.int x6.rows.length) (bif leI (gd (x6.rows.getD y.int.toNat []) 0).int O.int then bif ltI O.int (gd (x6.rows.getD y.int.toNat []) 1).int then nx [U,V,Z,W,x4,gd (x6.rows.getD y.int.toNat []) 1,x6,M,.i (w64 (y.int+1)),Y,J]
 else nx [U,V,Z,W,x4,O,x6,M,.i (w64 (y.int+1)),Y,J]
 else nx [U,V,Z,W,x4,O,x6,M,.i (w64 (y.int+1)),Y,J])
 else ex 0 [U,V,Z,W,x4,O,x6,M,y,Y,J]:=by kernel_rfl
theorem Tj(N:Nat)(p q:b8):bf f8 Dg N BO Tryz.f75 rb [⟨sd (.sl 41),p⟩,⟨ag aI,q⟩]=some (bo,
 (let y:=aX (ov N p q) N [gd p 0,gd q 0,gd q 1,.i 0,.i 0,gd q 0,gd p 0,.i ((gd p 0).rows.length:Int),.i 0,gd q 0,gd q 1]
  nd y.isSome (nd (y.code==2) (ob (leI (gd y.pay 10).int (gd y.pay 5).int))))):=by kernel_rfl
def ic(z:D)(a:D):Nat->D
 | 0=>a
 | k+1=>bif leI (gd (z.rows.getD k []) 0).int (ic z a k).int&&ltI (ic z a k).int (gd (z.rows.getD k []) 1).int then gd (z.rows.getD k []) 1 else ic z a k
def ge(z:D)(q:b8):Bool:=leI (gd q 1).int (ic z (gd q 0) z.rows.length).int
theorem cJ{L:b8->Out}(st:Nat->b8)(n:Nat)(j:Nat)(h1:∀k,k<n->L (st k)=some (0,st (k+1)))(y:L (st n)=some (j+2,st n)){N:Nat}(J:n<N) :
  aX L N (st 0)=some (j+2,st n):=by
 have e:=dE (L:=L) st n (fun _=>true) [] j (fun k hk=>h1 k hk) y J;rw[e,show (List.range n).all (fun _=>true)=true from by simp];rfl
def qj:Ent:=(75,e2 (sd (.sl 41)) (ag aI) fun p q=>(⟨rb,[.b (ge (gd p 0) q)]⟩,true))
theorem pQ:ay f8 qj:=bm fun p q h=>au (N:=(gd p 0).rows.length+1) (ks:=BO) Qz Tryz.func75 fun hw=>by
 rw[Tj];have hl:=fi (hw ⟨sd (.sl 41),p⟩ (by simp));have e:=cJ (L:=ov ((gd p 0).rows.length+1) p q) (fun k => [gd p 0,gd q 0,gd q 1,.i 0,.i 0,ic (gd p 0) (gd q 0) k,gd p 0,.i ((gd p 0).rows.length:Int),.i (k:Int),gd q 0,gd q 1]) (gd p 0).rows.length 0 (fun k hk=>?_) ?_ (N:=(gd p 0).rows.length+1) (by omega)
 ·simp only[j9] at e;rw[show ic (gd p 0) (gd q 0) 0=gd q 0 from rfl] at e;rw[e];rfl
 ·show ov _ p q [_,_,_,_,_,_,_,_,.i (k:Int),_,_]=_;rw[Jf];simp only[aA,di hk,bu hk,aG hk hl,g8,ic];cases leI (gd ((gd p 0).rows.getD k []) 0).int (ic (gd p 0) (gd q 0) k).int <;> cases ltI (ic (gd p 0) (gd q 0) k).int (gd ((gd p 0).rows.getD k []) 1).int <;> rfl
 ·show ov _ p q [_,_,_,_,_,_,_,.i ((gd p 0).rows.length:Int),.i ((gd p 0).rows.length:Int),_,_]=_;rw[Jf];simp only[aA,ca]
abbrev sW:=find [rI,fD]
abbrev te:=[0,1,3,4,5,6,14,20,38]
def ju(N:Nat)(p q:b8):b8->Out:=bb f8 sW N te Tryz.f62 rb [⟨sd (.sl 41),p⟩,⟨ag aI,q⟩] 0
theorem xj(N:Nat)(p q:b8)(y O W U x4 Y x6 J M V:D):(ju N p q) [y,O,W,U,x4,Y,x6,J,M,V] =
 bif ltI J.int (y.rows.length:Int) then nd (ah J.int y.rows.length) (bif leI (gd (y.rows.getD J.int.toNat []) 0).int x6.int then nd (ah J.int y.rows.length) (bif ltI x6.int (gd (y.rows.getD J.int.toNat []) 1).int then nd (ah J.int y.rows.length) (nx [y,O,W,U,x4,Y,gd (y.rows.getD J.int.toNat []) 1,.i (w64 (J.int+1)),M,V])
 else nx [y,O,W,U,x4,Y,x6,.i (w64 (J.int+1)),M,V])
 else nx [y,O,W,U,x4,Y,x6,.i (w64 (J.int+1)),M,V])
 else ex 0 [y,O,W,U,x4,Y,x6,J,M,V]:=by kernel_rfl
theorem KL(N:Nat)(p q:b8):bf f8 sW N te Tryz.f62 rb [⟨sd (.sl 41),p⟩,⟨ag aI,q⟩]=some (bo,
 bif !(bB (gd p 0)) then ob false
 else bif !(ax (sub q 0 2)) then ob false
 else (let y:=aX (ju N p q) N [gd p 0,gd q 0,gd q 1,.i 0,.i 0,.b (!(ax (sub q 0 2))),gd q 0,.i 0,gd q 0,gd q 1]
  nd y.isSome (nd (y.code==2) (ob (leI (gd y.pay 9).int (gd y.pay 6).int))))):=by kernel_rfl
def aT(z:D)(q:b8):Bool:=bB z&&(ax q&&ge z q)
def gN:Ent:=(62,e2 (sd (.sl 41)) (ag aI) fun p q=>(⟨rb,[.b (aT (gd p 0) q)]⟩,true))
theorem gn:ay f8 gN:=bm fun p q h=>au (N:=(gd p 0).rows.length+1) (ks:=te) (al (fC ⟨sZ,fC ⟨eA,fN⟩⟩)) Tryz.func62 fun hw=>by
 rw[KL];have hl:=fi (hw ⟨sd (.sl 41),p⟩ (by simp));unfold aT;rw[show ax (sub q 0 2)=ax q from rfl];cases bB (gd p 0)
 ·rfl
 cases ax q
 ·rfl
 have e:=cJ (L:=ju ((gd p 0).rows.length+1) p q) (fun k => [gd p 0,gd q 0,gd q 1,.i 0,.i 0,.b false,ic (gd p 0) (gd q 0) k,.i (k:Int),gd q 0,gd q 1]) (gd p 0).rows.length 0 (fun k hk=>?_) ?_ (N:=(gd p 0).rows.length+1) (by omega)
 ·simp only[j9] at e;rw[show ic (gd p 0) (gd q 0) 0=gd q 0 from rfl] at e;simp only[n4,f9,e];rfl
 ·show ju _ p q [_,_,_,_,_,_,_,.i (k:Int),_,_]=_;rw[xj];simp only[aA,di hk,bu hk,aG hk hl,g8,ic];cases leI (gd ((gd p 0).rows.getD k []) 0).int (ic (gd p 0) (gd q 0) k).int <;> cases ltI (ic (gd p 0) (gd q 0) k).int (gd ((gd p 0).rows.getD k []) 1).int <;> rfl
 ·show ju _ p q [_,_,_,_,_,_,_,.i ((gd p 0).rows.length:Int),_,_]=_;rw[xj];simp only[aA,ca]
def anf(a b c d:Int)(n:Nat):Bool:=(a==0)&&((b==0)&&((c==0)&&((d==0)&&((n:Int)==0))))
set_option maxHeartbeats 1000000
abbrev DW:=find [ng,mJ,zD,afP]
abbrev Gh:=[0,1,2,3,5,6,7,8]
theorem Mn(N:Nat)(p q r s:b8):bf f8 DW N Gh Tryz.f50 rb [⟨sd (.sl 93),p⟩,⟨ri,q⟩,⟨ag aI,r⟩,⟨ri,s⟩]=some (bo,
 bif aY (gd p 0) then bif ax (sub r 0 2) then bif dn [gd s 0] then ob (eL (fun y=>qo (.l [[.l [[gd q 0]],.l [[gd s 0]],.l [sub r 0 2]]]) (sub y 0 4)) (gd p 0))
 else ob false
 else ob false
 else ob false):=by kernel_rfl
def bV(z tx:D)(a:b8)(y:D):Bool:=aY z&&(ax a&&(dn [y]&&eL (fun r=>qo (.l [[.l [[tx]],.l [[y]],.l [sub a 0 2]]]) (sub r 0 4)) z))
def mq:Ent:=(50,e4 (sd (.sl 93)) ri (ag aI) ri fun p q r s=>(⟨rb,[.b (bV (gd p 0) (gd q 0) r (gd s 0))]⟩,true))
theorem mn:ay f8 mq:=Bc fun p q r s h=>au (N:=0) (ks:=Gh) (al (fC ⟨lP,fC ⟨mv,fC ⟨yv,fC ⟨afu,fN⟩⟩⟩⟩)) Tryz.func50 fun hw=>by
 rw[Mn];rw[show ax (sub r 0 2)=ax r from rfl];unfold bV;cases aY (gd p 0) <;> try rfl
 cases ax r <;> try rfl
 cases dn [gd s 0] <;> rfl
abbrev xI:=find [ig,PU]
abbrev xV:=[0,1,2,3,6,8,9,13,40]
def ly(N:Nat)(p q r s:b8):b8->Out:=bb f8 xI N xV Tryz.f96 rb [⟨sd (.sl 93),p⟩,⟨ri,q⟩,⟨ag aI,r⟩,⟨ri,s⟩] 0
theorem Gg(N:Nat)(p q r s:b8)(y O W V x4 Y x6 J M U:D):(ly N p q r s) [y,O,W,V,x4,Y,x6,J,M,U] =
 bif ltI J.int (y.rows.length:Int) then nd (ah J.int y.rows.length) (bif (gd (y.rows.getD J.int.toNat []) 0).int==O.int then nd (ah J.int y.rows.length) (bif gK [M,U] [(gd (y.rows.getD J.int.toNat []) 1),(gd (y.rows.getD J.int.toNat []) 2)] then nd (ah J.int y.rows.length) (bif leI x4.int (gd (y.rows.getD J.int.toNat []) 3).int then ob true
 else nx [y,O,W,V,x4,Y,x6,.i (w64 (J.int+1)),M,U])
 else nx [y,O,W,V,x4,Y,x6,.i (w64 (J.int+1)),M,U])
 else nx [y,O,W,V,x4,Y,x6,.i (w64 (J.int+1)),M,U])
 else ex 0 [y,O,W,V,x4,Y,x6,J,M,U]:=by kernel_rfl
theorem QH(N:Nat)(p q r s:b8):bf f8 xI N xV Tryz.f96 rb [⟨sd (.sl 93),p⟩,⟨ri,q⟩,⟨ag aI,r⟩,⟨ri,s⟩]=some (bo,
 (let y:=aX (ly N p q r s) N [gd p 0,gd q 0,gd r 0,gd r 1,gd s 0,.i 0,.i 0,.i 0,gd r 0,gd r 1]
  nd y.isSome (bif y.code==1 then some (1,y.pay)
  else nd (y.code==2) (ob false)))):=by kernel_rfl
def oI(r:b8)(tx:D)(a:b8)(y:D):Bool:=((gd r 0).int==tx.int)&&(gK a [gd r 1,gd r 2]&&leI y.int (gd r 3).int)
def holds(z tx:D)(a:b8)(y:D):Bool:=(List.range z.rows.length).any fun k=>oI (z.rows.getD k []) tx a y
theorem XG{z:D}(h:aY z=true){k:Nat}(hk:k<z.rows.length):ax [gd (z.rows.getD k []) 1,gd (z.rows.getD k []) 2]=true/\dn [gd (z.rows.getD k []) 3]=true:=by simp only[aY,a9,i9,m7] at h;have:=h.1 k hk;simp only[ma,a9] at this;exact⟨this.2.1,this.2.2.1⟩
theorem Sk{n:Nat}{C y:Nat->Bool}(h:∀k,k<n->C k=y k):(List.range n).any C=(List.range n).any y:=by rw[y0];simp only[D3,m7];exact⟨fun⟨k,hk,hc⟩=>⟨k,hk,by rw[<- h k hk];exact hc⟩,fun⟨k,hk,hc⟩=>⟨k,hk,by rw[h k hk];exact hc⟩⟩
theorem aey{n:Nat}{C y:Nat->Bool}(h:∀k,k<n->C k=y k):(List.range n).all C=(List.range n).all y:=by rw[y0];simp only[i9,m7];exact⟨fun hc k hk=>by rw[<- h k hk];exact hc k hk,fun hc k hk=>by rw[h k hk];exact hc k hk⟩
theorem zJ{z tx:D}{a:b8}(hz:aY z=true)(M:ax a=true):holds z tx a (.i 2)=bV z tx a (.i 2):=by
 unfold holds bV;rw[hz,M,y7,y7,show dn [.i 2]=true from rfl,y7];unfold eL;refine Sk fun k hk=>?_
 obtain⟨h1,y⟩:=XG hz hk;show oI (z.rows.getD k []) tx a (.i 2)=fg (sub (z.rows.getD k []) 0 4) [.l [[tx]]] [.l [[.i 2]]] [.l [sub a 0 2]];have e:fg (sub (z.rows.getD k []) 0 4) [.l [[tx]]] [.l [[.i 2]]] [.l [sub a 0 2]]=(bif (gd (z.rows.getD k []) 0).int==tx.int then bif (gd (z.rows.getD k []) 3).int==2 then bif leI (gd (z.rows.getD k []) 1).int (gd a 0).int then leI (gd a 1).int (gd (z.rows.getD k []) 2).int else false else bif (gd (z.rows.getD k []) 3).int==2 then bif leI (gd (z.rows.getD k []) 1).int (gd a 0).int then leI (gd a 1).int (gd (z.rows.getD k []) 2).int else false else false else false):=rfl;rw[e];unfold oI gK;rw[show ax (sub a 0 2)=ax a from rfl,M,show ax (sub [gd (z.rows.getD k []) 1,gd (z.rows.getD k []) 2] 0 2)=ax [gd (z.rows.getD k []) 1,gd (z.rows.getD k []) 2] from rfl,h1];simp only[g6,aq,ap,aA];have hm:leI 2 (gd (z.rows.getD k []) 3).int=((gd (z.rows.getD k []) 3).int==2):=by
  have y:(bif (gd (z.rows.getD k []) 3).int==1 then true else (gd (z.rows.getD k []) 3).int==2)=true:=y;cases J:(gd (z.rows.getD k []) 3).int==1
  ·rw[J,f9] at y;rw[y,eq_of_beq y];rfl
  ·rw[eq_of_beq J];rfl
 rw[hm];cases (gd (z.rows.getD k []) 0).int==tx.int <;> cases (gd (z.rows.getD k []) 3).int==2 <;> cases leI (gd (z.rows.getD k []) 1).int (gd a 0).int <;> cases leI (gd a 1).int (gd (z.rows.getD k []) 2).int <;> rfl
def oA:Ent:=(96,e4 (sd (.sl 93)) ri (ag aI) ri fun p q r s=>(⟨rb,[.b (holds (gd p 0) (gd q 0) r (gd s 0))]⟩,true))
theorem nD:ay f8 oA:=Bc fun p q r s h=>au (N:=(gd p 0).rows.length+1) (ks:=xV) (al (fC ⟨gL,fC ⟨Vt,fN⟩⟩)) Tryz.func96 fun hw=>by
 rw[QH];have hl:=fi (hw ⟨sd (.sl 93),p⟩ (by simp));have e:=Wo (L:=ly ((gd p 0).rows.length+1) p q r s) (fun k => [gd p 0,gd q 0,gd r 0,gd r 1,gd s 0,.i 0,.i 0,.i (k:Int),gd r 0,gd r 1]) (gd p 0).rows.length (fun k=>oI ((gd p 0).rows.getD k []) (gd q 0) r (gd s 0)) [.b true] 0 (fun k hk=>?_) ?_ (N:=(gd p 0).rows.length+1) (by omega)
 ·simp only[j9] at e;rw[e];unfold holds;cases (List.range (gd p 0).rows.length).any (fun k=>oI ((gd p 0).rows.getD k []) (gd q 0) r (gd s 0)) <;> rfl
 ·show ly _ p q r s [_,_,_,_,_,_,_,.i (k:Int),_,_]=_;rw[Gg];simp only[aA,di hk,bu hk,aG hk hl,g8];rw[show gK [gd r 0,gd r 1] [gd ((gd p 0).rows.getD k []) 1,gd ((gd p 0).rows.getD k []) 2]=gK r [gd ((gd p 0).rows.getD k []) 1,gd ((gd p 0).rows.getD k []) 2] from rfl];unfold oI;cases (gd ((gd p 0).rows.getD k []) 0).int==(gd q 0).int <;> cases gK r [gd ((gd p 0).rows.getD k []) 1,gd ((gd p 0).rows.getD k []) 2] <;> cases leI (gd s 0).int (gd ((gd p 0).rows.getD k []) 3).int <;> rfl
 ·show ly _ p q r s [_,_,_,_,_,_,_,.i ((gd p 0).rows.length:Int),_,_]=_;rw[Gg];simp only[aA,ca]
abbrev Nr:=find []
theorem YL:av f8 Nr:=al (fN)
abbrev LH:=[0,2,3,5,7,8,9,10]
def ub(N:Nat)(p:b8):b8->Out:=bb f8 Nr N LH Tryz.f117 (.one (.c (.own (0,0) true 3))) [⟨sd (.sl 75),p⟩] 0
theorem RH(N:Nat)(p:b8)(O U M J x4 y:D):(ub N p) [O,U,M,J,x4,y] =
 bif ltI y.int x4.int then nd (ah y.int J.rows.length) (nd (bl (M.rows ++ [[gd (J.rows.getD y.int.toNat []) 0]])&&true) (nx [O,U,.l (M.rows ++ [[gd (J.rows.getD y.int.toNat []) 0]]),J,x4,.i (w64 (y.int+1))]))
 else ex 0 [O,U,M,J,x4,y]:=by kernel_rfl
theorem aas(N:Nat)(p:b8):bf f8 Nr N LH Tryz.f117 (.one (.c (.own (0,0) true 3))) [⟨sd (.sl 75),p⟩]=some (bo,
 (let y:=aX (ub N p) N [gd p 0,.l [],.l [],gd p 0,.i ((gd p 0).rows.length:Int),.i 0]
  nd y.isSome (nd (y.code==2) (some (1,[gd y.pay 2]))))):=by kernel_rfl
def aF(z:D):D:=.l (z.rows.map fun r => [gd r 0])
def qm:Ent:=(117,e1 (sd (.sl 75)) fun p=>(⟨.one (.c (.own (0,0) true 3)),[aF (gd p 0)]⟩,leI ((gd p 0).rows.length:Int) 1000000000))
theorem np:ay f8 qm:=cK fun p h=>au (N:=(gd p 0).rows.length+1) (ks:=LH) YL Tryz.func117 fun hw=>by
 rw[aas];have h:leI ((gd p 0).rows.length:Int) 1000000000=true:=h;simp only[leI,g5] at h;have e:=cJ (L:=ub ((gd p 0).rows.length+1) p) (fun k => [gd p 0,.l [],.l (((gd p 0).rows.take k).map fun r => [gd r 0]),gd p 0,.i ((gd p 0).rows.length:Int),.i (k:Int)]) (gd p 0).rows.length 0 (fun k hk=>?_) ?_ (N:=(gd p 0).rows.length+1) (by omega)
 ·simp only[j9,List.take_zero,I2,F1] at e;rw[e];rfl
 ·show ub _ p [_,_,.l (((gd p 0).rows.take k).map fun r => [gd r 0]),_,_,.i (k:Int)]=_;rw[RH];have J:((gd p 0).rows.take (k+1)).map (fun r => [gd r 0])=((gd p 0).rows.take k).map (fun r => [gd r 0]) ++ [[gd ((gd p 0).rows.getD k []) 0]]:=by rw[List.take_succ_eq_append_getElem hk,y8,g4,g9 hk];rfl
  have y:bl (((gd p 0).rows.take k).map (fun r => [gd r 0]) ++ [[gd ((gd p 0).rows.getD k []) 0]])=true:=ci (by simp;omega);simp only[aA,bd,di hk,bu hk,aG hk (show (gd p 0).rows.length<=9223372036854775807 from by omega),g8];rw[y,J];rfl
 ·show ub _ p [_,_,_,_,.i ((gd p 0).rows.length:Int),.i ((gd p 0).rows.length:Int)]=_;rw[RH];simp only[aA,ca]
abbrev FQ:=find [NC,mq]
abbrev Ed:=[0,1,2,3,4]
theorem Pr(N:Nat)(p q r:b8):bf f8 FQ N Ed Tryz.f232 rb [⟨ag Lw,p⟩,⟨.one (.c (.cptr [si,.sl 41,.sl 41,.sl 108,.sl 93,.sl 75,.sl 3,.sl 3,si] 0)),q⟩,⟨.one (.c (.cptr [si,.sl 70] 0)),r⟩]=some (bo,
 ob (!(bV (gd ((gd q 0).rows.getD 0 []) 4) (gd ((gd r 0).rows.getD 0 []) 0) [gd p 0,.i (w64 ((gd p 0).int+1))] (.i 2)))):=by kernel_rfl
def pJ(p q r:b8):Bool:=
 !(bV (gd ((gd q 0).rows.getD 0 []) 4) (gd ((gd r 0).rows.getD 0 []) 0) [gd p 0,.i (w64 ((gd p 0).int+1))] (.i 2))
def uW:Ent:=(232,e3 (ag Lw) (.one (.c (.cptr [si,.sl 41,.sl 41,.sl 108,.sl 93,.sl 75,.sl 3,.sl 3,si] 0))) (.one (.c (.cptr [si,.sl 70] 0))) fun p q r=>(⟨rb,[.b (pJ p [gd q 0] [gd r 0])]⟩,true))
theorem zl:ay f8 uW:=gW fun p q r h=>au (N:=0) (ks:=Ed) (al (fC ⟨DD,fC ⟨mn,fN⟩⟩)) Tryz.func232 fun hw=>by
 rw[Pr]
 try simp only[er,ez,eo]
 rfl
abbrev Zg:=find [uW]
abbrev aaJ:=[0,1,4,5,7,8,9,16]
def Ei(N:Nat)(p q:b8):b8->Out:=bb f8 Zg N aaJ Tryz.f252 ri [⟨sd (.sl 70),p⟩,⟨.one (.c (.fn 232 [.cptr [si,.sl 41,.sl 41,.sl 108,.sl 93,.sl 75,.sl 3,.sl 3,si] 0,.cptr [si,.sl 70] 0])),q⟩] 0
theorem acN(N:Nat)(p q:b8)(y J O M x4:D):(Ei N p q) [y,J,O,M,x4] =
 bif ltI x4.int M.int then nd (ah x4.int y.rows.length) (bif pJ (sub (y.rows.getD x4.int.toNat []) 0 2) [gd (J.rows.getD 0 []) 0] [gd (J.rows.getD 0 []).tail 0] then some (1,[x4])
 else nx [y,J,O,M,.i (w64 (x4.int+1))])
 else ex 0 [y,J,O,M,x4]:=by kernel_rfl
theorem agZ(N:Nat)(p q:b8):bf f8 Zg N aaJ Tryz.f252 ri [⟨sd (.sl 70),p⟩,⟨.one (.c (.fn 232 [.cptr [si,.sl 41,.sl 41,.sl 108,.sl 93,.sl 75,.sl 3,.sl 3,si] 0,.cptr [si,.sl 70] 0])),q⟩]=some (bo,
 (let y:=aX (Ei N p q) N [gd p 0,gd q 0,.i 0,.i ((gd p 0).rows.length:Int),.i 0]
  nd y.isSome (bif y.code==1 then some (1,y.pay)
  else nd (y.code==2) (oi (-1))))):=by kernel_rfl
def qu(c:D)(r:b8):Bool:=pJ r [gd (c.rows.getD 0 []) 0] [gd (c.rows.getD 0 []).tail 0]
def ahb:Ent:=(252,e2 (sd (.sl 70)) (.one (.c (.fn 232 [.cptr [si,.sl 41,.sl 41,.sl 108,.sl 93,.sl 75,.sl 3,.sl 3,si] 0,.cptr [si,.sl 70] 0]))) fun p q=>(⟨ri,[.i (ixF (fun k=>qu (gd q 0) (sub ((gd p 0).rows.getD k []) 0 2)) 0 (gd p 0).rows.length)]⟩,true))
theorem aiB:ay f8 ahb:=bm fun p q h=>au (N:=(gd p 0).rows.length+1) (ks:=aaJ) (al (fC ⟨zl,fN⟩)) Tryz.func252 fun hw=>by
 rw[agZ];have hl:=fi (hw ⟨sd (.sl 70),p⟩ (by simp));have e:=iq (L:=Ei ((gd p 0).rows.length+1) p q) (fun k => [gd p 0,gd q 0,.i 0,.i ((gd p 0).rows.length:Int),.i (k:Int)]) (gd p 0).rows.length (fun k=>qu (gd q 0) (sub ((gd p 0).rows.getD k []) 0 2)) [gd p 0,gd q 0,.i 0,.i ((gd p 0).rows.length:Int),.i ((gd p 0).rows.length:Int)] (fun k hk=>?_) ?_ (gd p 0).rows.length 0 ((gd p 0).rows.length+1) (by omega) (by omega)
 ·simp only[j9] at e;rw[e];have y:=gT (fun k=>qu (gd q 0) (sub ((gd p 0).rows.getD k []) 0 2)) (gd p 0).rows.length 0;cases J:decide (ixF (fun k=>qu (gd q 0) (sub ((gd p 0).rows.getD k []) 0 2)) 0 (gd p 0).rows.length>=0)
  ·rw[y J];rfl
  ·rfl
 ·show Ei _ p q [_,_,_,_,.i (k:Int)]=_;rw[acN];simp only[aA,di hk,bu hk,aG hk hl,g8];unfold qu;cases pJ (sub ((gd p 0).rows.getD k []) 0 2) [gd ((gd q 0).rows.getD 0 []) 0] [gd ((gd q 0).rows.getD 0 []).tail 0] <;> rfl
 ·show Ei _ p q [_,_,_,.i ((gd p 0).rows.length:Int),.i ((gd p 0).rows.length:Int)]=_;rw[acN];simp only[aA,ca]
abbrev afr:=find [ahb,uW]
abbrev ajh:=[0,1,4]
theorem ahe(N:Nat)(p q:b8):bf f8 afr N ajh Tryz.f211 rb [⟨sd (.sl 70),p⟩,⟨.one (.c (.fn 232 [.cptr [si,.sl 41,.sl 41,.sl 108,.sl 93,.sl 75,.sl 3,.sl 3,si] 0,.cptr [si,.sl 70] 0])),q⟩]=some (bo,
 ob (leI 0 (ixF (fun k=>qu (.l [[gd ((gd q 0).rows.getD 0 []) 0,gd ((gd q 0).rows.getD 0 []).tail 0]]) (sub ((gd p 0).rows.getD k []) 0 2)) 0 (gd p 0).rows.length))):=by kernel_rfl
def agd:Ent:=(211,e2 (sd (.sl 70)) (.one (.c (.fn 232 [.cptr [si,.sl 41,.sl 41,.sl 108,.sl 93,.sl 75,.sl 3,.sl 3,si] 0,.cptr [si,.sl 70] 0]))) fun p q=>(⟨rb,[.b (eL (fun y=>qu (gd q 0) (sub y 0 2)) (gd p 0))]⟩,true))
theorem afA:ay f8 agd:=bm fun p q h=>au (N:=0) (ks:=ajh) (al (fC ⟨aiB,fC ⟨zl,fN⟩⟩)) Tryz.func211 fun hw=>by rw[ahe];refine congrArg (fun x=>some (bo,ob x)) ?_;exact (kq (fun k=>qu (gd q 0) (sub ((gd p 0).rows.getD k []) 0 2)) (gd p 0).rows.length 0).trans (by simp only[m0];rfl)
abbrev CQ:=find [oC,agd,qm,vS]
abbrev BX:=[0,1,2,4,6,7,8,9,21]
def oB(N:Nat)(p:b8):b8->Out:=bb f8 CQ N BX Tryz.f152 rb [⟨ag aR,p⟩] 0
theorem JR(N:Nat)(p:b8)(x0 x1 x2 x3 x4 x5 x6 x7 x8 x9 a3 J M y a1 V a0 a2 Y O Z W U:D):(oB N p) [x0,x1,x2,x3,x4,x5,x6,x7,x8,x9,a3,J,M,y,a1,V,a0,a2,Y,O,Z,W,U] =
 bif ltI y.int M.int then nd (ah y.int J.rows.length) (bif !(aL (gd (J.rows.getD y.int.toNat []) 1)) then ob false
 else bif eL (fun rr=>qu (.l [[.l [[a1,V,a0,a2,Y,O,Z,W,U]],.l [sub (J.rows.getD y.int.toNat []) 0 2]]]) (sub rr 0 2)) (gd (J.rows.getD y.int.toNat []) 1) then ob false
 else nx [x0,x1,x2,x3,x4,x5,x6,x7,x8,x9,a3,J,M,.i (w64 (y.int+1)),a1,V,a0,a2,Y,O,Z,W,U])
 else ex 0 [x0,x1,x2,x3,x4,x5,x6,x7,x8,x9,a3,J,M,y,a1,V,a0,a2,Y,O,Z,W,U]:=by kernel_rfl
theorem Tq(N:Nat)(p:b8):bf f8 CQ N BX Tryz.f152 rb [⟨ag aR,p⟩]=some (bo,
 (let y:=aX (oB N p) N [gd p 0,gd p 1,gd p 2,gd p 3,gd p 4,gd p 5,gd p 6,gd p 7,gd p 8,.i 0,.i 0,gd p 5,.i ((gd p 5).rows.length:Int),.i 0,gd p 0,gd p 1,gd p 2,gd p 3,gd p 4,gd p 5,gd p 6,gd p 7,gd p 8]
  nd y.isSome (bif y.code==1 then some (1,y.pay)
  else nd (y.code==2) (nd (leI ((gd y.pay 19).rows.length:Int) 1000000000) (ob (gF (aF (gd y.pay 19)))))))):=by kernel_rfl
def fu(w:b8):b8:= [gd w 0,.i (w64 ((gd w 0).int+1))]
def Cm(p:b8)(k:Nat):Bool:=aL (gd ((gd p 5).rows.getD k []) 1)&&(List.range (gd ((gd p 5).rows.getD k []) 1).rows.length).all fun j=>bV (gd p 4) (gd ((gd p 5).rows.getD k []) 0) (fu ((gd ((gd p 5).rows.getD k []) 1).rows.getD j [])) (.i 2)
def nB(p:b8):Bool:=(List.range (gd p 5).rows.length).all (Cm p)&&gF (aF (gd p 5))
def LZ:Ent:=(152,e1 (ag aR) fun p=>(⟨rb,[.b (nB p)]⟩,leI ((gd p 5).rows.length:Int) 1000000000))
theorem TB:ay f8 LZ:=cK fun p h=>au (N:=(gd p 5).rows.length+1) (ks:=BX) (al (fC ⟨nu,fC ⟨afA,fC ⟨np,fC ⟨xL,fN⟩⟩⟩⟩)) Tryz.func152 fun hw=>by
 rw[Tq];have h:leI ((gd p 5).rows.length:Int) 1000000000=true:=h;have y:=h;simp only[leI,g5] at y;have e:=dE (L:=oB ((gd p 5).rows.length+1) p) (fun k => [gd p 0,gd p 1,gd p 2,gd p 3,gd p 4,gd p 5,gd p 6,gd p 7,gd p 8,.i 0,.i 0,gd p 5,.i ((gd p 5).rows.length:Int),.i (k:Int),gd p 0,gd p 1,gd p 2,gd p 3,gd p 4,gd p 5,gd p 6,gd p 7,gd p 8]) (gd p 5).rows.length (Cm p) [.b false] 0 (fun k hk=>?_) ?_ (N:=(gd p 5).rows.length+1) (by omega)
 ·simp only[j9] at e;rw[e];unfold nB;cases (List.range (gd p 5).rows.length).all (Cm p)
  ·rfl
  ·simp only[nd,g6,f9,B1,Out.code,Out.pay,z6,aq,ap,Nat.reduceBEq,Nat.reduceAdd,aA,kK,ye,bd,n4,A4,s9,h];rfl
 ·show oB _ p [_,_,_,_,_,_,_,_,_,_,_,_,_,.i (k:Int),_,_,_,_,_,_,_,_,_]=_;rw[JR];simp only[aA,di hk,bu hk,aG hk (show (gd p 5).rows.length<=9223372036854775807 from by omega),g8];have J:(!eL (fun r=>qu (.l [[.l [[gd p 0,gd p 1,gd p 2,gd p 3,gd p 4,gd p 5,gd p 6,gd p 7,gd p 8]],.l [sub ((gd p 5).rows.getD k []) 0 2]]]) (sub r 0 2)) (gd ((gd p 5).rows.getD k []) 1))=(List.range (gd ((gd p 5).rows.getD k []) 1).rows.length).all fun j=>bV (gd p 4) (gd ((gd p 5).rows.getD k []) 0) (fu ((gd ((gd p 5).rows.getD k []) 1).rows.getD j [])) (.i 2):=by
   unfold eL;rw[<- acp];refine aey fun j _=>?_
   show (!(!bV (gd p 4) (gd ((gd p 5).rows.getD k []) 0) (fu ((gd ((gd p 5).rows.getD k []) 1).rows.getD j [])) (.i 2)))=_;rw[Bool.not_not]
  unfold Cm;rw[<- J];cases aL (gd ((gd p 5).rows.getD k []) 1) <;> cases eL (fun r=>qu (.l [[.l [[gd p 0,gd p 1,gd p 2,gd p 3,gd p 4,gd p 5,gd p 6,gd p 7,gd p 8]],.l [sub ((gd p 5).rows.getD k []) 0 2]]]) (sub r 0 2)) (gd ((gd p 5).rows.getD k []) 1) <;> rfl
 ·show oB _ p [_,_,_,_,_,_,_,_,_,_,_,_,.i ((gd p 5).rows.length:Int),.i ((gd p 5).rows.length:Int),_,_,_,_,_,_,_,_,_]=_;rw[JR];simp only[aA,ca]
abbrev nM:=find [ou,nX,zA,oA,nq]
abbrev nE:=[0,1,2,3,4,5,10,43,48,63,75]
def hY(N:Nat)(p:b8):b8->Out:=bb f8 nM N nE Tryz.f200 rb [⟨ag aR,p⟩] 0
def fZ(N:Nat)(p:b8):b8->Out:=bb f8 nM N nE Tryz.f200 rb [⟨ag aR,p⟩] 2
theorem qQ(N:Nat)(p:b8)(x0 x1 x2 x3 x4 x5 x6 x7 x8 x9 Z J O Y a2 V a1 M W U a0:D):(hY N p) [x0,x1,x2,x3,x4,x5,x6,x7,x8,x9,Z,J,O,Y,a2,V,a1,M,W,U,a0] =
 bif ltI J.int (M.rows.length:Int) then nd (ah J.int M.rows.length) (bif !(inB (gd (M.rows.getD J.int.toNat []) 0).int 1 60) then ob false
 else bif ltI 0 J.int then nd (ah (w64 (J.int - 1)) M.rows.length) (bif leI (gd (M.rows.getD J.int.toNat []) 0).int (gd (M.rows.getD (w64 (J.int - 1)).toNat []) 0).int then ob false
 else bif !(aL (gd (M.rows.getD J.int.toNat []) 1)) then ob false
 else (let y:=aX (fZ N p) N [x0,x1,x2,x3,x4,x5,x6,x7,x8,x9,Z,J,.b (ltI J.int (M.rows.length:Int)),.i 0,.b (!(aL (gd (M.rows.getD J.int.toNat []) 1))),.i 0,O,Y,a2,V,a1,M,W,U,a0,gd (M.rows.getD J.int.toNat []) 0,gd (M.rows.getD J.int.toNat []) 1]
  nd y.isSome (bif y.code==1 then some (1,y.pay)
  else nd (y.code==4) (bif aC (gd y.pay 22) (gd y.pay 25).int then ob false
  else bif aC (gd y.pay 23) (gd y.pay 25).int then ob false
  else nx [gd y.pay 0,gd y.pay 1,gd y.pay 2,gd y.pay 3,gd y.pay 4,gd y.pay 5,gd y.pay 6,gd y.pay 7,gd y.pay 8,gd y.pay 9,gd y.pay 10,.i (w64 ((gd y.pay 11).int+1)),gd y.pay 16,gd y.pay 17,gd y.pay 18,gd y.pay 19,gd y.pay 20,gd y.pay 21,gd y.pay 22,gd y.pay 23,gd y.pay 24]))))
 else bif !(aL (gd (M.rows.getD J.int.toNat []) 1)) then ob false
 else (let y:=aX (fZ N p) N [x0,x1,x2,x3,x4,x5,x6,x7,x8,x9,Z,J,.b (ltI J.int (M.rows.length:Int)),.i 0,.b (!(aL (gd (M.rows.getD J.int.toNat []) 1))),.i 0,O,Y,a2,V,a1,M,W,U,a0,gd (M.rows.getD J.int.toNat []) 0,gd (M.rows.getD J.int.toNat []) 1]
  nd y.isSome (bif y.code==1 then some (1,y.pay)
  else nd (y.code==4) (bif aC (gd y.pay 22) (gd y.pay 25).int then ob false
  else bif aC (gd y.pay 23) (gd y.pay 25).int then ob false
  else nx [gd y.pay 0,gd y.pay 1,gd y.pay 2,gd y.pay 3,gd y.pay 4,gd y.pay 5,gd y.pay 6,gd y.pay 7,gd y.pay 8,gd y.pay 9,gd y.pay 10,.i (w64 ((gd y.pay 11).int+1)),gd y.pay 16,gd y.pay 17,gd y.pay 18,gd y.pay 19,gd y.pay 20,gd y.pay 21,gd y.pay 22,gd y.pay 23,gd y.pay 24]))))
 else ex 0 [x0,x1,x2,x3,x4,x5,x6,x7,x8,x9,Z,J,O,Y,a2,V,a1,M,W,U,a0]:=by kernel_rfl
theorem xb(N:Nat)(p:b8)(x0 x1 x2 x3 x4 x5 x6 x7 x8 x9 a3 Y V a2 a5 y a4 a6 a1 W O a0 Z U a7 M J:D):(fZ N p) [x0,x1,x2,x3,x4,x5,x6,x7,x8,x9,a3,Y,V,a2,a5,y,a4,a6,a1,W,O,a0,Z,U,a7,M,J] =
 bif ltI y.int (J.rows.length:Int) then nd (ah y.int J.rows.length) (bif !(holds O M [(gd (J.rows.getD y.int.toNat []) 0),.i (w64 ((gd (J.rows.getD y.int.toNat []) 0).int+1))] (.i 2)) then ob false
 else nx [x0,x1,x2,x3,x4,x5,x6,x7,x8,x9,a3,Y,V,a2,a5,.i (w64 (y.int+1)),a4,a6,a1,W,O,a0,Z,U,a7,M,J])
 else ex 2 [x0,x1,x2,x3,x4,x5,x6,x7,x8,x9,a3,Y,V,a2,a5,y,a4,a6,a1,W,O,a0,Z,U,a7,M,J]:=by kernel_rfl
theorem KK(N:Nat)(p:b8):bf f8 nM N nE Tryz.f200 rb [⟨ag aR,p⟩]=some (bo,
 (let y:=aX (hY N p) N [gd p 0,gd p 1,gd p 2,gd p 3,gd p 4,gd p 5,gd p 6,gd p 7,gd p 8,.i 0,.i 0,.i 0,gd p 0,gd p 1,gd p 2,gd p 3,gd p 4,gd p 5,gd p 6,gd p 7,gd p 8]
  nd y.isSome (bif y.code==1 then some (1,y.pay)
  else nd (y.code==2) (ob true)))):=by kernel_rfl
def hJ(p:b8)(k:Nat):Bool:=aL (gd ((gd p 5).rows.getD k []) 1)&&((List.range (gd ((gd p 5).rows.getD k []) 1).rows.length).all (fun j=>holds (gd p 4) (gd ((gd p 5).rows.getD k []) 0) (fu ((gd ((gd p 5).rows.getD k []) 1).rows.getD j [])) (.i 2))&&(!aC (gd p 6) (gd ((gd p 5).rows.getD k []) 0).int && !aC (gd p 7) (gd ((gd p 5).rows.getD k []) 0).int))
def fK(p:b8):Nat->Bool
 | 0=>inB (gd ((gd p 5).rows.getD 0 []) 0).int 1 60&&hJ p 0
 | k+1=>inB (gd ((gd p 5).rows.getD (k+1) []) 0).int 1 60&&(!leI (gd ((gd p 5).rows.getD (k+1) []) 0).int (gd ((gd p 5).rows.getD k []) 0).int&&hJ p (k+1))
def gx(p:b8):Bool:=(List.range (gd p 5).rows.length).all (fK p)
theorem kM{z:D}(h:aL z=true):z.rows.length<=60:=by simp only[aL,a9,g5] at h;omega
theorem ahZ(p:b8)(N:Nat)(U:61<=N)(y J:D)(k:Nat)(hwo:aL (gd ((gd p 5).rows.getD k []) 1)=true) :
  aX (fZ N p) N [gd p 0,gd p 1,gd p 2,gd p 3,gd p 4,gd p 5,gd p 6,gd p 7,gd p 8,.i 0,.i 0,.i (k:Int),y,.i 0,J,.i 0,gd p 0,gd p 1,gd p 2,gd p 3,gd p 4,gd p 5,gd p 6,gd p 7,gd p 8,gd ((gd p 5).rows.getD k []) 0,gd ((gd p 5).rows.getD k []) 1] =
  some (bif (List.range (gd ((gd p 5).rows.getD k []) 1).rows.length).all (fun j=>holds (gd p 4) (gd ((gd p 5).rows.getD k []) 0) (fu ((gd ((gd p 5).rows.getD k []) 1).rows.getD j [])) (.i 2)) then (4,[gd p 0,gd p 1,gd p 2,gd p 3,gd p 4,gd p 5,gd p 6,gd p 7,gd p 8,.i 0,.i 0,.i (k:Int),y,.i 0,J,.i ((gd ((gd p 5).rows.getD k []) 1).rows.length:Int),gd p 0,gd p 1,gd p 2,gd p 3,gd p 4,gd p 5,gd p 6,gd p 7,gd p 8,gd ((gd p 5).rows.getD k []) 0,gd ((gd p 5).rows.getD k []) 1]) else (1,[.b false])):=by
 have O:=kM hwo;have e:=dE (L:=fZ N p) (fun j => [gd p 0,gd p 1,gd p 2,gd p 3,gd p 4,gd p 5,gd p 6,gd p 7,gd p 8,.i 0,.i 0,.i (k:Int),y,.i 0,J,.i (j:Int),gd p 0,gd p 1,gd p 2,gd p 3,gd p 4,gd p 5,gd p 6,gd p 7,gd p 8,gd ((gd p 5).rows.getD k []) 0,gd ((gd p 5).rows.getD k []) 1]) (gd ((gd p 5).rows.getD k []) 1).rows.length (fun j=>holds (gd p 4) (gd ((gd p 5).rows.getD k []) 0) (fu ((gd ((gd p 5).rows.getD k []) 1).rows.getD j [])) (.i 2)) [.b false] 2 (fun j M=>?_) ?_ (N:=N) (by omega)
 ·simp only[j9] at e;exact e
 ·show fZ N p [_,_,_,_,_,_,_,_,_,_,_,_,_,_,_,.i (j:Int),_,_,_,_,_,_,_,_,_,_,_]=_;rw[xb];simp only[aA,di M,bu M,aG M (show (gd ((gd p 5).rows.getD k []) 1).rows.length<=9223372036854775807 from by omega),g8];rw[show holds (gd p 4) (gd ((gd p 5).rows.getD k []) 0) [gd ((gd ((gd p 5).rows.getD k []) 1).rows.getD j []) 0,.i (w64 ((gd ((gd ((gd p 5).rows.getD k []) 1).rows.getD j []) 0).int+1))] (.i 2)=holds (gd p 4) (gd ((gd p 5).rows.getD k []) 0) (fu ((gd ((gd p 5).rows.getD k []) 1).rows.getD j [])) (.i 2) from rfl];cases holds (gd p 4) (gd ((gd p 5).rows.getD k []) 0) (fu ((gd ((gd p 5).rows.getD k []) 1).rows.getD j [])) (.i 2) <;> rfl
 ·show fZ N p [_,_,_,_,_,_,_,_,_,_,_,_,_,_,_,.i ((gd ((gd p 5).rows.getD k []) 1).rows.length:Int),_,_,_,_,_,_,_,_,_,_,_]=_;rw[xb];simp only[aA,ca]
def Ba:Ent:=(200,e1 (ag aR) fun p=>(⟨rb,[.b (gx p)]⟩,true))
theorem Kx:ay f8 Ba:=cK fun p h=>au (N:=(gd p 5).rows.length+61) (ks:=nE) (al (fC ⟨kD,fC ⟨nL,fC ⟨xU,fC ⟨nD,fC ⟨kY,fN⟩⟩⟩⟩⟩)) Tryz.func200 fun hw=>by
 rw[KK];have hl:=akQ (hw ⟨ag aR,p⟩ (by simp)) (j:=5) rfl;have e:=dE (L:=hY ((gd p 5).rows.length+61) p) (fun k => [gd p 0,gd p 1,gd p 2,gd p 3,gd p 4,gd p 5,gd p 6,gd p 7,gd p 8,.i 0,.i 0,.i (k:Int),gd p 0,gd p 1,gd p 2,gd p 3,gd p 4,gd p 5,gd p 6,gd p 7,gd p 8]) (gd p 5).rows.length (fK p) [.b false] 0 (fun k hk=>?_) ?_ (N:=(gd p 5).rows.length+61) (by omega)
 ·simp only[j9] at e;rw[e];unfold gx;cases (List.range (gd p 5).rows.length).all (fK p) <;> rfl
 ·cases k with
  | zero =>
   show hY _ p [_,_,_,_,_,_,_,_,_,_,_,.i ((0:Nat):Int),_,_,_,_,_,_,_,_,_]=_;rw[qQ];simp only[aA,gy hk,g6,bu hk,g8,CZ,f9,fK,hJ];cases inB (gd ((gd p 5).rows.getD 0 []) 0).int 1 60 <;> try rfl
   cases hwo:aL (gd ((gd p 5).rows.getD 0 []) 1) <;> try rfl
   simp only[n4,f9,ahZ p _ (show 61<=(gd p 5).rows.length+61 from by omega) _ _ 0 hwo];cases (List.range (gd ((gd p 5).rows.getD 0 []) 1).rows.length).all (fun j=>holds (gd p 4) (gd ((gd p 5).rows.getD 0 []) 0) (fu ((gd ((gd p 5).rows.getD 0 []) 1).rows.getD j [])) (.i 2)) <;> try rfl
   simp only[nd,g6,f9,B1,Out.code,Out.pay,z6,aq,ap,Nat.reduceBEq,Nat.reduceAdd,aA,kK,ye,bd,n4,A4,s9,aG hk hl];cases aC (gd p 6) (gd ((gd p 5).rows.getD 0 []) 0).int <;> cases aC (gd p 7) (gd ((gd p 5).rows.getD 0 []) 0).int <;> rfl
  | succ k =>
   show hY _ p [_,_,_,_,_,_,_,_,_,_,_,.i ((k+1:Nat):Int),_,_,_,_,_,_,_,_,_]=_;rw[qQ];simp only[aA,gy hk,g6,bu hk,g8,BE,qU (show k+1<=9223372036854775807 from by omega),bu (H8 hk),fK,hJ];cases inB (gd ((gd p 5).rows.getD (k+1) []) 0).int 1 60 <;> try rfl
   cases leI (gd ((gd p 5).rows.getD (k+1) []) 0).int (gd ((gd p 5).rows.getD k []) 0).int <;> try rfl
   cases hwo:aL (gd ((gd p 5).rows.getD (k+1) []) 1) <;> try rfl
   simp only[n4,f9,ahZ p _ (show 61<=(gd p 5).rows.length+61 from by omega) _ _ (k+1) hwo];cases (List.range (gd ((gd p 5).rows.getD (k+1) []) 1).rows.length).all (fun j=>holds (gd p 4) (gd ((gd p 5).rows.getD (k+1) []) 0) (fu ((gd ((gd p 5).rows.getD (k+1) []) 1).rows.getD j [])) (.i 2)) <;> try rfl
   simp only[nd,g6,f9,B1,Out.code,Out.pay,z6,aq,ap,Nat.reduceBEq,Nat.reduceAdd,aA,kK,ye,bd,n4,A4,s9,aG hk hl];cases aC (gd p 6) (gd ((gd p 5).rows.getD (k+1) []) 0).int <;> cases aC (gd p 7) (gd ((gd p 5).rows.getD (k+1) []) 0).int <;> rfl
 ·show hY _ p [_,_,_,_,_,_,_,_,_,_,_,.i ((gd p 5).rows.length:Int),_,_,_,_,_,_,_,_,_]=_;rw[qQ];simp only[aA,ca]
abbrev DE:=find []
theorem KJ:av f8 DE:=al (fN)
abbrev Ep:=[0,1,2,4]
theorem Md(N:Nat)(p q:b8):bf f8 DE N Ep Tryz.f274 ri [⟨ag Uc,p⟩,⟨ri,q⟩]=some (bo,
 oi (w64 ((gd p 0).int - (gd q 0).int))):=by kernel_rfl
def vF:Ent:=(274,e2 (ag Uc) ri fun p q=>(⟨ri,[.i (w64 ((gd p 0).int - (gd q 0).int))]⟩,true))
theorem yh:ay f8 vF:=bm fun p q h=>au (N:=0) (ks:=Ep) KJ Tryz.func274 fun hw=>by
 rw[Md]
 skip
abbrev alk:=find [vF]
abbrev alX:=[0,1,2,6,7,8,9,10,11,17,31]
def ait(N:Nat)(p q r:b8):b8->Out:=bb f8 alk N alX Tryz.f273 (.tup [.c (.d si),.c (.d (.bool))]) [⟨sd (.sl 108),p⟩,⟨ri,q⟩,⟨.one (.c (.fn 274 [])),r⟩] 0
theorem amF(N:Nat)(p q r:b8)(J M U O x4 V x6 y:D):(ait N p q r) [J,M,U,O,x4,V,x6,y] =
 bif ltI x6.int y.int then nd (leI 0 1) (nd (ah (w64 ((IntKind.u64.wrap (w64 (x6.int+y.int))).fdiv (2 ^ (min 1 64)))) J.rows.length) (bif ltI (w64 ((gd (J.rows.getD (w64 ((IntKind.u64.wrap (w64 (x6.int+y.int))).fdiv (2 ^ (min 1 64)))).toNat []) 0).int - M.int)) 0 then nx [J,M,U,O,x4,V,.i (w64 ((w64 ((IntKind.u64.wrap (w64 (x6.int+y.int))).fdiv (2 ^ (min 1 64))))+1)),y]
 else nx [J,M,U,O,x4,V,x6,.i (w64 ((IntKind.u64.wrap (w64 (x6.int+y.int))).fdiv (2 ^ (min 1 64))))]))
 else ex 0 [J,M,U,O,x4,V,x6,y]:=by kernel_rfl
def akW(N:Nat)(p q r:b8):Out:=let y:=aX (ait N p q r) N [gd p 0,gd q 0,gd r 0,.i 0,.i 0,.i ((gd p 0).rows.length:Int),.i 0,.i ((gd p 0).rows.length:Int)];nd y.isSome (nd (y.code==2) (bif ltI (gd y.pay 6).int (gd y.pay 5).int then nd (ah (gd y.pay 6).int (gd y.pay 0).rows.length) (some (1,[gd y.pay 6,.b ((w64 ((gd ((gd y.pay 0).rows.getD (gd y.pay 6).int.toNat []) 0).int - (gd y.pay 1).int))==0)])) else some (1,[gd y.pay 6,.b false])))
theorem ama(N:Nat)(p q r:b8):bf f8 alk N alX Tryz.f273 (.tup [.c (.d si),.c (.d (.bool))]) [⟨sd (.sl 108),p⟩,⟨ri,q⟩,⟨.one (.c (.fn 274 [])),r⟩]=some (bo,(akW N p q r)):=by kernel_rfl
def bT(z:D)(k:Nat):Int:=(gd (z.rows.getD k []) 0).int
def bp(z:D)(t:Int):Nat:=cnt (fun k=>ltI (bT z k) t) 0 z.rows.length
def bsB(z:D)(t:Int):Bool:=ltI (bp z t:Int) (z.rows.length:Int)&&(bT z (bp z t)==t)
theorem abw(C:Nat->Bool):∀b k a,cnt C k (a+b)=cnt C k a+cnt C (k+a) b
 | 0,k,a=>rfl
 | b+1,k,a=>by rw[<- u4,jm,jm,abw C b k a,u4,u4]
theorem acR{C:Nat->Bool}:∀m k,(∀j,j<m->C (k+j)=true)->cnt C k m=m
 | 0,_,_=>rfl
 | m+1,k,h=>by rw[jm,acR m k (fun j y=>h j (by omega)),h m (by omega)];rfl
theorem aio{C:Nat->Bool}:∀m k,(∀j,j<m->C (k+j)=false)->cnt C k m=0
 | 0,_,_=>rfl
 | m+1,k,h=>by rw[jm,aio m k (fun j y=>h j (by omega)),h m (by omega)];rfl
theorem sp{z:D}{t:Int}{i:Nat}(hi:i<=z.rows.length)(h1:∀k,k<i->bT z k<t)(J:∀k,i<=k->k<z.rows.length->t<=bT z k):bp z t=i:=by unfold bp;obtain⟨m,hm⟩:∃m,z.rows.length=i+m:=⟨z.rows.length - i,by omega⟩;rw[hm,abw,acR i 0 (fun j y=>by rw[m0];exact lp (h1 j y)),aio m (0+i) (fun j y=>by rw[m0];exact iI (J (i+j) (by omega) (by omega)))];omega
structure aiS(z:D):Prop where
 len:z.rows.length<=60
 key:∀k,k<z.rows.length->0<=bT z k/\bT z k<=999
 lt:∀i j,i<j->j<z.rows.length->bT z i<bT z j
theorem ep{z:D}(h:aN z=true):aiS z:=by
 simp only[aN,a9,i9,m7,leI,g5] at h;obtain⟨h,hl⟩:=h;refine⟨by omega,fun k hk=>?_,fun i j M y=>?_⟩
 ·have:=h k hk;cases k with
  | zero=>simp only[storeAt,a9,inB,g5] at this;exact⟨this.1.1,this.1.2⟩
  | succ k=>simp only[storeAt,a9,inB,g5] at this;exact⟨this.1.1,this.1.2⟩
 ·obtain⟨d,rfl⟩:∃d,j=i+d+1:=⟨j - i - 1,by omega⟩;have J:∀k,k+1<z.rows.length->bT z k<bT z (k+1):=fun k hk=>by have:=h (k+1) hk;simp only[storeAt,a9,leI,o8,B9] at this;unfold bT;omega
  clear M
  induction d with
  | zero=>exact J i y
  | succ d O=>exact Int.lt_trans (O (by omega)) (J (i+d+1) y)
theorem aiP{x:Int}(h:0<=x)(y:x<=9223372036854775807):IntKind.u64.wrap x=x:=by simp only[IntKind.wrap,IntKind.signed,IntKind.bits];simp;omega
theorem amN{i j:Nat}(h:i+j<=1000):w64 ((IntKind.u64.wrap (w64 ((i:Int)+(j:Int)))).fdiv (2 ^ (min 1 64)))=(((i+j) / 2:Nat):Int):=by rw[bD (x:=(i:Int)+j) (by omega) (by omega),aiP (by omega) (by omega),show ((2:Int) ^ (min 1 64))=((2:Nat):Int) from rfl,show ((i:Int)+(j:Int))=((i+j:Nat):Int) from by omega,<- Int.ofNat_fdiv,bD (by omega) (by omega)]
theorem akb(p q r:b8)(N:Nat)(hz:aiS (gd p 0))(Y:inB (gd q 0).int 0 999=true):∀(d i j M:Nat),j=i+d->j<=(gd p 0).rows.length->d<M->(∀k,k<i->bT (gd p 0) k<(gd q 0).int)->(∀k,j<=k->k<(gd p 0).rows.length->(gd q 0).int<=bT (gd p 0) k) ->
  aX (ait N p q r) M [gd p 0,gd q 0,gd r 0,.i 0,.i 0,.i ((gd p 0).rows.length:Int),.i (i:Int),.i (j:Int)]=some (2,[gd p 0,gd q 0,gd r 0,.i 0,.i 0,.i ((gd p 0).rows.length:Int),.i (bp (gd p 0) (gd q 0).int:Int),.i (bp (gd p 0) (gd q 0).int:Int)]):=by
 intro d
 induction d using Nat.strongRecOn with
 | _ d V =>
 intro i j M hj U hM h1 O;have a0:=hz.len;simp only[inB,a9,g5] at Y;obtain⟨M,rfl⟩:∃Z,M=Z+1:=⟨M - 1,by omega⟩;rw[aX,amF];simp only[aA];by_cases W:d=0
 ·subst W;obtain rfl:j=i:=by omega
  rw[ca,sp U h1 O];rfl
 ·rw[di (show i<j from by omega)];have y:(i+j) / 2<(gd p 0).rows.length:=by omega
  simp only[amN (show i+j<=1000 from by omega),bu y,g8,show leI 0 1=true from rfl,aU];have hk:=hz.key _ y;rw[show (gd ((gd p 0).rows.getD ((i+j) / 2) []) 0).int=bT (gd p 0) ((i+j) / 2) from rfl,bD (x:=bT (gd p 0) ((i+j) / 2) - (gd q 0).int) (by omega) (by omega)];by_cases hc:bT (gd p 0) ((i+j) / 2)<(gd q 0).int
  ·rw[lp (show bT (gd p 0) ((i+j) / 2) - (gd q 0).int<0 from by omega),g6];simp only[aG y (show (gd p 0).rows.length<=9223372036854775807 from by omega)];exact V (j - ((i+j) / 2+1)) (by omega) ((i+j) / 2+1) j M (by omega) U (by omega) (fun k a2=>by
    rcases C4 k ((i+j) / 2) with h | h
    ·have:=hz.lt k _ h y;omega
    ·obtain rfl:k=(i+j) / 2:=by omega
     exact hc) O
  ·rw[iI (show 0<=bT (gd p 0) ((i+j) / 2) - (gd q 0).int from by omega),f9];exact V ((i+j) / 2 - i) (by omega) i ((i+j) / 2) M (by omega) (by omega) (by omega) h1 (fun k a1 J=>by
    rcases C4 ((i+j) / 2) k with h | h
    ·have:=hz.lt _ k h J;omega
    ·obtain rfl:k=(i+j) / 2:=by omega
     omega)
def amf:Ent:=(273,e3 (sd (.sl 108)) ri (.one (.c (.fn 274 []))) fun p q r=>(⟨.tup [.c (.d si),.c (.d (.bool))],[.i (bp (gd p 0) (gd q 0).int:Int),.b (bsB (gd p 0) (gd q 0).int)]⟩,aN (gd p 0)&&inB (gd q 0).int 0 999))
theorem alu:ay f8 amf:=gW fun p q r h=>au (N:=61) (ks:=alX) (al (fC ⟨yh,fN⟩)) Tryz.func273 fun hw=>by
 rw[ama];have h:(aN (gd p 0)&&inB (gd q 0).int 0 999)=true:=h;simp only[a9] at h;have hz:=ep h.1;have O:=hz.len;have e:=akb p q r 61 hz h.2 (gd p 0).rows.length 0 (gd p 0).rows.length 61 (by omega) (i8 _) (by omega) (fun k hk=>absurd hk (G2 _)) (fun k h1 J=>absurd J (by omega));simp only[j9] at e;unfold akW;rw[e];simp only[nd,g6,f9,B1,Out.code,Out.pay,z6,aq,ap,Nat.reduceBEq,Nat.reduceAdd,aA,kK,ye,bd,n4,A4,s9];unfold bsB;have M:=h.2;simp only[inB,a9,g5] at M;by_cases y:bp (gd p 0) (gd q 0).int<(gd p 0).rows.length
 ·have hk:=hz.key _ y;rw[gy y,bK y,g8,show (gd ((gd p 0).rows.getD (bp (gd p 0) (gd q 0).int) []) 0).int=bT (gd p 0) (bp (gd p 0) (gd q 0).int) from rfl,bD (x:=bT (gd p 0) (bp (gd p 0) (gd q 0).int) - (gd q 0).int) (by omega) (by omega)];rw[show (bT (gd p 0) (bp (gd p 0) (gd q 0).int) - (gd q 0).int==0)=(bT (gd p 0) (bp (gd p 0) (gd q 0).int)==(gd q 0).int) from by rw[y0];simp only[u7];omega];rfl
 ·rw[iI (show ((gd p 0).rows.length:Int)<=(bp (gd p 0) (gd q 0).int:Int) from by omega)];rfl
abbrev Mg:=find [amf]
abbrev Nf:=[0,1,4,5]
theorem TE(N:Nat)(p q:b8):bf f8 Mg N Nf Tryz.f244 (.tup [.c (.d si),.c (.d (.bool))]) [⟨sd (.sl 108),p⟩,⟨ri,q⟩]=some (bo,
 nd (aN (gd p 0)&&inB (gd q 0).int 0 999) (some (1,[.i (bp (gd p 0) (gd q 0).int:Int),.b (bsB (gd p 0) (gd q 0).int)]))):=by kernel_rfl
def Nh:Ent:=(244,e2 (sd (.sl 108)) ri fun p q=>(⟨.tup [.c (.d si),.c (.d (.bool))],[.i (bp (gd p 0) (gd q 0).int:Int),.b (bsB (gd p 0) (gd q 0).int)]⟩,aN (gd p 0)&&inB (gd q 0).int 0 999))
theorem TZ:ay f8 Nh:=bm fun p q h=>au (N:=0) (ks:=Nf) (al (fC ⟨alu,fN⟩)) Tryz.func244 fun hw=>by rw[TE];have h:(aN (gd p 0)&&inB (gd q 0).int 0 999)=true:=h;rw[h,aU]
abbrev Ot:=find [Nh]
abbrev OE:=[0,1,4,5,6,14]
theorem Ty(N:Nat)(p q:b8):bf f8 Ot N OE Tryz.f175 ri [⟨sd (.sl 108),p⟩,⟨ri,q⟩]=some (bo,
 nd (aN (gd p 0)&&inB (gd q 0).int 0 999) (bif !(bsB (gd p 0) (gd q 0).int) then oi (-1)
 else nd (ah (bp (gd p 0) (gd q 0).int:Int) (gd p 0).rows.length) (some (1,[gd ((gd p 0).rows.getD (bp (gd p 0) (gd q 0).int:Int).toNat []) 1])))):=by kernel_rfl
def ux(z:D)(t:Int):D:=bif bsB z t then gd (z.rows.getD (bp z t) []) 1 else .i (-1)
def Co:Ent:=(175,e2 (sd (.sl 108)) ri fun p q=>(⟨ri,[ux (gd p 0) (gd q 0).int]⟩,aN (gd p 0)&&inB (gd q 0).int 0 999))
theorem Fy:ay f8 Co:=bm fun p q h=>au (N:=0) (ks:=OE) (al (fC ⟨TZ,fN⟩)) Tryz.func175 fun hw=>by
 rw[Ty];have h:(aN (gd p 0)&&inB (gd q 0).int 0 999)=true:=h;rw[h,aU];unfold ux;cases J:bsB (gd p 0) (gd q 0).int
 ·rfl
 ·have y:=J;simp only[bsB,a9,ltI,g5] at y;rw[bK (show bp (gd p 0) (gd q 0).int<(gd p 0).rows.length from by omega)];rfl
abbrev GC:=find []
theorem Ve:av f8 GC:=al (fN)
abbrev GN:=[0,1,4,5,9,18]
def rm(N:Nat)(p q:b8):b8->Out:=bb f8 GC N GN Tryz.f206 ri [⟨sd (.sl 108),p⟩,⟨ri,q⟩] 0
theorem Pm(N:Nat)(p q:b8)(y M O J:D):(rm N p q) [y,M,O,J] =
 bif ltI J.int (y.rows.length:Int) then nd (ah J.int y.rows.length) (bif (gd (y.rows.getD J.int.toNat []) 0).int==M.int then nd (ah J.int y.rows.length) (some (1,[gd (y.rows.getD J.int.toNat []) 1]))
 else nx [y,M,O,.i (w64 (J.int+1))])
 else ex 0 [y,M,O,J]:=by kernel_rfl
theorem WB(N:Nat)(p q:b8):bf f8 GC N GN Tryz.f206 ri [⟨sd (.sl 108),p⟩,⟨ri,q⟩]=some (bo,
 (let y:=aX (rm N p q) N [gd p 0,gd q 0,.i 0,.i 0]
  nd y.isSome (bif y.code==1 then some (1,y.pay)
  else nd (y.code==2) (oi (-1))))):=by kernel_rfl
theorem abt{ex:Nat->Option (Nat × b8)}{o:Nat × b8}:∀(m k i:Nat),i<m->ex (k+i)=some o->(∀j,j<i->ex (k+j)=none)->Nu ex k m=some o
 | 0,_,_,h,_,_=>absurd h (G2 _)
 | m+1,k,0,_,h,_=>by rw[Nu,show ex k=some o from h]
 | m+1,k,i+1,hi,h,hn=>by rw[Nu,show ex k=none from hn 0 (by omega)];exact abt m (k+1) i (by omega) (by rw[show k+1+i=k+(i+1) from by omega];exact h) fun j y=>by rw[show k+1+j=k+(j+1) from by omega];exact hn (j+1) (by omega)
theorem abs{ex:Nat->Option (Nat × b8)}:∀(m k:Nat),(∀j,j<m->ex (k+j)=none)->Nu ex k m=none
 | 0,_,_=>rfl
 | m+1,k,h=>by rw[Nu,show ex k=none from h 0 (by omega)];exact abs m (k+1) fun j y=>by rw[show k+1+j=k+(j+1) from by omega];exact h (j+1) (by omega)
def HL:Ent:=(206,e2 (sd (.sl 108)) ri fun p q=>(⟨ri,[ux (gd p 0) (gd q 0).int]⟩,aN (gd p 0)))
theorem Kc:ay f8 HL:=bm fun p q h=>au (N:=61) (ks:=GN) Ve Tryz.func206 fun hw=>by
 rw[WB];have h:aN (gd p 0)=true:=h;have hz:=ep h;have V:=hz.len;have e:=Hv (step:=rm 61 p q) (fun k => [gd p 0,gd q 0,.i 0,.i (k:Int)]) (fun k=>bif bT (gd p 0) k==(gd q 0).int then some (1,[gd ((gd p 0).rows.getD k []) 1]) else none) (2,[gd p 0,gd q 0,.i 0,.i ((gd p 0).rows.length:Int)]) (n:=(gd p 0).rows.length) (fun k hk=>?_) (fun k o h=>?_) ?_ (by simp) (gd p 0).rows.length 0 61 (by omega) (by omega)
 ·simp only[j9] at e;rw[e];unfold ux;cases y:bsB (gd p 0) (gd q 0).int
  ·rw[abs _ _ fun j J=>?_]
   ·rfl
   ·rw[m0];cases hk:bT (gd p 0) j==(gd q 0).int
    ·rfl
    ·have hk:=eq_of_beq hk;have hl:bp (gd p 0) (gd q 0).int=j:=sp (by omega) (fun k O=>by have:=hz.lt k j O J;omega) (fun k h1 U=>by
      rcases C4 j k with h | h
      ·have:=hz.lt j k h U;omega
      ·obtain rfl:k=j:=by omega
       omega)
     unfold bsB at y;rw[hl,gy J,hk,s9] at y;cases y
  ·simp only[bsB,a9,ltI,g5] at y;have M:bp (gd p 0) (gd q 0).int<(gd p 0).rows.length:=by omega
   rw[abt _ _ (bp (gd p 0) (gd q 0).int) M (by rw[m0,y.2];rfl) fun j J=>?_]
   ·rfl
   ·rw[m0,show (bT (gd p 0) j==(gd q 0).int)=false from E9.2 (by have:=hz.lt j _ J M;have:=eq_of_beq y.2;omega)];rfl
 ·show rm _ p q [_,_,_,.i (k:Int)]=_;rw[Pm];simp only[aA,di hk,bu hk,aG hk (show (gd p 0).rows.length<=9223372036854775807 from by omega),g8];rw[show (gd ((gd p 0).rows.getD k []) 0).int=bT (gd p 0) k from rfl];cases bT (gd p 0) k==(gd q 0).int <;> rfl
 ·cases hc:bT (gd p 0) k==(gd q 0).int
  ·rw[hc] at h;cases h
  ·rw[hc,g6] at h;injection h with h
   rw[<- h];simp
 ·show rm _ p q [_,_,_,.i ((gd p 0).rows.length:Int)]=_;rw[Pm];simp only[aA,ca]
abbrev alB:=find [vF]
abbrev alW:=[0,1,2,6,7,8,9,10,11,17,31]
def aiV(N:Nat)(p q r:b8):b8->Out:=bb f8 alB N alW Tryz.f273 (.tup [.c (.d si),.c (.d (.bool))]) [⟨sd (.sl 108),p⟩,⟨ri,q⟩,⟨.one (.c (.fn 274 [])),r⟩] 0
theorem amG(N:Nat)(p q r:b8)(J M U O x4 V x6 y:D):(aiV N p q r) [J,M,U,O,x4,V,x6,y] =
 bif ltI x6.int y.int then nd (leI 0 1) (nd (ah (w64 ((IntKind.u64.wrap (w64 (x6.int+y.int))).fdiv (2 ^ (min 1 64)))) J.rows.length) (bif ltI (w64 ((gd (J.rows.getD (w64 ((IntKind.u64.wrap (w64 (x6.int+y.int))).fdiv (2 ^ (min 1 64)))).toNat []) 0).int - M.int)) 0 then nx [J,M,U,O,x4,V,.i (w64 ((w64 ((IntKind.u64.wrap (w64 (x6.int+y.int))).fdiv (2 ^ (min 1 64))))+1)),y]
 else nx [J,M,U,O,x4,V,x6,.i (w64 ((IntKind.u64.wrap (w64 (x6.int+y.int))).fdiv (2 ^ (min 1 64))))]))
 else ex 0 [J,M,U,O,x4,V,x6,y]:=by kernel_rfl
def akP(N:Nat)(p q r:b8)(y:Out):Out:=nd (ah (gd y.pay 6).int (gd y.pay 0).rows.length) (some (1,[gd y.pay 6,.b ((w64 ((gd ((gd y.pay 0).rows.getD (gd y.pay 6).int.toNat []) 0).int - (gd y.pay 1).int))==0)]))
def akH(N:Nat)(p q r:b8)(y:Out):Out:=bif ltI (gd y.pay 6).int (gd y.pay 5).int then (akP N p q r y) else some (1,[gd y.pay 6,.b false])
def akL(N:Nat)(p q r:b8):Out:=let y:Out:=aX (aiV N p q r) N [gd p 0,gd q 0,gd r 0,.i 0,.i 0,.i ((gd p 0).rows.length:Int),.i 0,.i ((gd p 0).rows.length:Int)];nd y.isSome (nd (y.code==2) (akH N p q r y))
theorem alp(N:Nat)(p q r:b8):bf f8 alB N alW Tryz.f273 (.tup [.c (.d si),.c (.d (.bool))]) [⟨sd (.sl 108),p⟩,⟨ri,q⟩,⟨.one (.c (.fn 274 [])),r⟩]=some (bo,(akL N p q r)):=by kernel_rfl
structure jz(z:D):Prop where
 len:z.rows.length<=1000
 key:∀k,k<z.rows.length->0<=bT z k/\bT z k<=999
 lt:∀i j,i<j->j<z.rows.length->bT z i<bT z j
def cI(z:D):Bool:=leI (z.rows.length:Int) 1000&&(List.range z.rows.length).all fun k=>inB (bT z k) 0 999&&(k==0||ltI (bT z (k - 1)) (bT z k))
theorem tv{z:D}(h:cI z=true):jz z:=by
 simp only[cI,a9,i9,m7,leI,ltI,inB,g5,B6,u7] at h;obtain⟨hl,h⟩:=h;refine⟨by omega,fun k hk=>(h k hk).1,fun i j M y=>?_⟩;obtain⟨d,rfl⟩:∃d,j=i+d+1:=⟨j - i - 1,by omega⟩;have J:∀k,k+1<z.rows.length->bT z k<bT z (k+1):=fun k hk=>by
  rcases (h (k+1) hk).2 with h0 | h0
  ·omega
  ·simpa using h0
 clear M
 induction d with
 | zero=>exact J i y
 | succ d O=>exact Int.lt_trans (O (by omega)) (J (i+d+1) y)
theorem SV{z:D}(h:jz z):cI z=true:=by
 simp only[cI,a9,i9,m7,leI,ltI,inB,g5,B6,u7];refine⟨by have:=h.len;omega,fun k hk=>⟨h.key k hk,?_⟩⟩;rcases E0 k with rfl | hk0
 ·exact .inl rfl
 ·exact .inr (h.lt (k - 1) k (by omega) hk)
theorem akX{i j:Nat}(h:i+j<=100000):w64 ((IntKind.u64.wrap (w64 ((i:Int)+(j:Int)))).fdiv (2 ^ (min 1 64)))=(((i+j) / 2:Nat):Int):=by rw[bD (x:=(i:Int)+j) (by omega) (by omega),aiP (by omega) (by omega),show ((2:Int) ^ (min 1 64))=((2:Nat):Int) from rfl,show ((i:Int)+(j:Int))=((i+j:Nat):Int) from by omega,<- Int.ofNat_fdiv,bD (by omega) (by omega)]
theorem air(p q r:b8)(N:Nat)(hz:jz (gd p 0))(Y:inB (gd q 0).int 0 999=true):∀(d i j M:Nat),j=i+d->j<=(gd p 0).rows.length->d<M->(∀k,k<i->bT (gd p 0) k<(gd q 0).int)->(∀k,j<=k->k<(gd p 0).rows.length->(gd q 0).int<=bT (gd p 0) k) ->
  aX (aiV N p q r) M [gd p 0,gd q 0,gd r 0,.i 0,.i 0,.i ((gd p 0).rows.length:Int),.i (i:Int),.i (j:Int)]=some (2,[gd p 0,gd q 0,gd r 0,.i 0,.i 0,.i ((gd p 0).rows.length:Int),.i (bp (gd p 0) (gd q 0).int:Int),.i (bp (gd p 0) (gd q 0).int:Int)]):=by
 intro d
 induction d using Nat.strongRecOn with
 | _ d V =>
 intro i j M hj U hM h1 O;have a0:=hz.len;simp only[inB,a9,g5] at Y;obtain⟨M,rfl⟩:∃Z,M=Z+1:=⟨M - 1,by omega⟩;rw[aX,amG];simp only[aA];by_cases W:d=0
 ·subst W;obtain rfl:j=i:=by omega
  rw[ca,sp U h1 O];rfl
 ·rw[di (show i<j from by omega)];have y:(i+j) / 2<(gd p 0).rows.length:=by omega
  simp only[akX (show i+j<=100000 from by omega),bu y,g8,show leI 0 1=true from rfl,aU];have hk:=hz.key _ y;rw[show (gd ((gd p 0).rows.getD ((i+j) / 2) []) 0).int=bT (gd p 0) ((i+j) / 2) from rfl,bD (x:=bT (gd p 0) ((i+j) / 2) - (gd q 0).int) (by omega) (by omega)];by_cases hc:bT (gd p 0) ((i+j) / 2)<(gd q 0).int
  ·rw[lp (show bT (gd p 0) ((i+j) / 2) - (gd q 0).int<0 from by omega),g6];simp only[aG y (show (gd p 0).rows.length<=9223372036854775807 from by omega)];exact V (j - ((i+j) / 2+1)) (by omega) ((i+j) / 2+1) j M (by omega) U (by omega) (fun k a2=>by
    rcases C4 k ((i+j) / 2) with h | h
    ·have:=hz.lt k _ h y;omega
    ·obtain rfl:k=(i+j) / 2:=by omega
     exact hc) O
  ·rw[iI (show 0<=bT (gd p 0) ((i+j) / 2) - (gd q 0).int from by omega),f9];exact V ((i+j) / 2 - i) (by omega) i ((i+j) / 2) M (by omega) (by omega) (by omega) h1 (fun k a1 J=>by
    rcases C4 ((i+j) / 2) k with h | h
    ·have:=hz.lt _ k h J;omega
    ·obtain rfl:k=(i+j) / 2:=by omega
     omega)
def amL:Ent:=(273,e3 (sd (.sl 108)) ri (.one (.c (.fn 274 []))) fun p q r=>(⟨.tup [.c (.d si),.c (.d (.bool))],[.i (bp (gd p 0) (gd q 0).int:Int),.b (bsB (gd p 0) (gd q 0).int)]⟩,cI (gd p 0)&&inB (gd q 0).int 0 999))
theorem alH:ay f8 amL:=gW fun p q r h=>au (N:=1001) (ks:=alW) (al (fC ⟨yh,fN⟩)) Tryz.func273 fun hw=>by
 rw[alp];have h:(cI (gd p 0)&&inB (gd q 0).int 0 999)=true:=h;simp only[a9] at h;have hz:=tv h.1;have O:=hz.len;have e:=air p q r 1001 hz h.2 (gd p 0).rows.length 0 (gd p 0).rows.length 1001 (by omega) (i8 _) (by omega) (fun k hk=>absurd hk (G2 _)) (fun k h1 J=>absurd J (by omega));simp only[j9] at e;unfold akL akH akP;rw[e];simp only[nd,g6,f9,B1,Out.code,Out.pay,z6,aq,ap,Nat.reduceBEq,Nat.reduceAdd,aA,kK,ye,bd,n4,A4,s9];unfold bsB;have M:=h.2;simp only[inB,a9,g5] at M;by_cases y:bp (gd p 0) (gd q 0).int<(gd p 0).rows.length
 ·have hk:=hz.key _ y;rw[gy y,bK y,g8,show (gd ((gd p 0).rows.getD (bp (gd p 0) (gd q 0).int) []) 0).int=bT (gd p 0) (bp (gd p 0) (gd q 0).int) from rfl,bD (x:=bT (gd p 0) (bp (gd p 0) (gd q 0).int) - (gd q 0).int) (by omega) (by omega)];rw[show (bT (gd p 0) (bp (gd p 0) (gd q 0).int) - (gd q 0).int==0)=(bT (gd p 0) (bp (gd p 0) (gd q 0).int)==(gd q 0).int) from by rw[y0];simp only[u7];omega];rfl
 ·rw[iI (show ((gd p 0).rows.length:Int)<=(bp (gd p 0) (gd q 0).int:Int) from by omega)];rfl
abbrev JI:=find [amL]
abbrev Jk:=[0,1,4,5]
theorem Qj(N:Nat)(p q:b8):bf f8 JI N Jk Tryz.f244 (.tup [.c (.d si),.c (.d (.bool))]) [⟨sd (.sl 108),p⟩,⟨ri,q⟩]=some (bo,
 nd (cI (gd p 0)&&inB (gd q 0).int 0 999) (some (1,[.i (bp (gd p 0) (gd q 0).int:Int),.b (bsB (gd p 0) (gd q 0).int)]))):=by kernel_rfl
def IU:Ent:=(244,e2 (sd (.sl 108)) ri fun p q=>(⟨.tup [.c (.d si),.c (.d (.bool))],[.i (bp (gd p 0) (gd q 0).int:Int),.b (bsB (gd p 0) (gd q 0).int)]⟩,cI (gd p 0)&&inB (gd q 0).int 0 999))
theorem Qr:ay f8 IU:=bm fun p q h=>au (N:=0) (ks:=Jk) (al (fC ⟨alH,fN⟩)) Tryz.func244 fun hw=>by rw[Qj];have h:(cI (gd p 0)&&inB (gd q 0).int 0 999)=true:=h;rw[h,aU]
end Go.Proofs.YtpdfmcmnjikppaaGreat
namespace Go.Proofs.YtpdfmcmnjikppaaGreat.H
open Go.RowKit Go.Lib
set_option maxRecDepth 100000
set_option maxHeartbeats 4000000
theorem gk{P:Program}(w:World)(dT sT ty y k:TypeId)(b o n J U:Nat)(a:Addr)(M V:Nat)(cs:List Value)
  (hu:P.underlying dT=some (.slice y)) (Z:(P.info? y).map (·.size)=some k) (hn:n=Nat.min M J) (hl:cs.length=n*k)
  (W:∀j v,cs[j]?=some v->w.cell? (a.add j)=some v) (hc:∀j,j<cs.length->(w.cell? ⟨b,o+j,none⟩).isSome=true) (hf:∀j,j<cs.length->w.frozen? ⟨b,o+j,none⟩=false) (h1:∀v∈cs,v.oneCell'=true) :
  (Builtin.copy_ #[dT,sT] ty #[.slice (some ⟨b,o,none⟩) J U,.slice (some a) M V]).run P w=.ok (goInt n) (w.setCells b o cs):=by
 have O:=run_loadCells_list (P:=P) w a cs W;have a0:=run_storeCells_cells (P:=P) b o cs 0 w (by simpa using hc) (by simpa using hf) h1;cases Y:P.info? y with
 | none=>simp[Y] at Z
 | some i =>
  have hi:i.size=k:=by simpa [Y] using Z
  rw[hl] at O;simp[Builtin.copy_,run_underlying hu,Builtin.lenOf,Builtin.firstCells,sizeOf,typeInfo,Y,hi,<- hn,O,a0]
theorem LJ{P:Program}(w:World)(t e W:TypeId)(z:Value)(U:P.underlying t=some (.slice e))(hv:∀w,(zeroValue e).run P w=.ok z w)(h1:∀u∈z.cells.toList,u.oneCell'=true)(b o c:Nat)(Y:0<z.cells.size)
  (hc:∀j,j<z.cells.size->(w.cell? ⟨b,o+j,none⟩).isSome=true) (V:∀j,j<z.cells.size->w.frozen? ⟨b,o+j,none⟩=false) :
  (Builtin.clear_ #[t] W #[.slice (some ⟨b,o,none⟩) 1 c]).run P w=.ok (.tuple #[]) (w.setCells b o z.cells.toList):=by
 have M:(Builtin.zeroCells z.cells 1).toList=z.cells.toList:=by
  apply List.ext_getElem
  ·simp[Builtin.zeroCells]
  ·intro j h1 O;have y:j<z.cells.size:=by simpa using O
   simp[Builtin.zeroCells,Nat.mod_eq_of_lt y,getElem!_pos z.cells j y]
 have J:=run_storeCells_cells (P:=P) b o z.cells.toList 0 w (by simpa using hc) (by simpa using V) h1;simp[Builtin.clear_,run_underlying U,hv,M,J]
theorem jp(b:Nat)(y:List Value)(o:Nat)(w:World)(h:∀j,j<y.length->(w.cell? ⟨b,o+j,none⟩).isSome=true)(k:Nat)(hk:(w.cell? ⟨b,k,none⟩).isSome=true):((w.setCells b o y).cell? ⟨b,k,none⟩).isSome=true:=by
 by_cases hin:o<=k/\k<o+y.length
 ·obtain⟨j,rfl⟩:∃j,k=o+j:=⟨k - o,by omega⟩;rw[World.cell?_setCells_in b y o w h j (by omega)];rfl
 ·rw[F4 b _ _ _ _ (fun _ _=>by show k<o\/_<=k;omega)];exact hk
abbrev zc:Value:=.agg #[.int .i64 0,.int .i64 0]
theorem alA(w:World):(zeroValue 108).run f8 w=.ok zc w:=Tryz.zeroValue108 w
theorem info_cell:(Tryz.prog.info? 108).map (fun i=>(i.zero,i.size,i.bytes))=some (some zc,2,16):=by kernel_rfl
theorem del_cell(b off n c i j:Nat)(cs:List Value)(w:World)(hj:j=i+1)(hi:i<n)(c0:n<=c)(a8:c<=9223372036854775807)(a6:cs.length=n*2)(Z:∀j v,cs[j]?=some v->w.cell? ⟨b,off+j,none⟩=some v)
  (a0:∀j,j<n*2->w.frozen? ⟨b,off+j,none⟩=false) (h1:∀v∈cs,v.oneCell'=true) :
  Calls f8 285 #[.slice (some ⟨b,off,none⟩) n c,.int .i64 i,.int .i64 j] w fun e w' =>
   e=.returned (.slice (some ⟨b,off,none⟩) (n - 1) c)/\w'=(w.drew.setCells b (off+i*2) (cs.drop (j*2))).setCells b (off+(n - 1)*2) zc.cells.toList:=by
 obtain⟨i0,a5,c2,a4,c1⟩:=info_parts info_cell;have O:∀j,j<n*2->(w.cell? ⟨b,off+j,none⟩).isSome=true:=fun j hj=>by rw[Z j _ (g9 (by omega))];rfl
 have a7:Tryz.prog.follows .mixedOrders=true:=by kernel_rfl
 have c3:¬((i:Int)=(j:Int)):=by omega
 obtain⟨y,M⟩:∃y,y=cs.drop (j*2):=⟨_,rfl⟩;have W:y.length=(n - j)*2:=by rw[M,v9,a6,N9]
 have a1:∀t u,y[t]?=some u->w.cell? ⟨b,off+j*2+t,none⟩=some u:=fun t u J=>by rw[M,A6] at J;rw[u4];exact Z _ u J
 have s2:Hid (∀u∈y,u.oneCell'=true):=fun u J=>h1 u (by rw[M] at J;exact D1 J)
 obtain⟨A,hA,a3⟩:∃A:Addr,(if c=j then some (⟨b,off,none⟩:Addr) else some ⟨b,off+j*2,none⟩)=some A/\Hid (∀t u,y[t]?=some u->w.drew.cell? (A.add t)=some u):=by
  by_cases h:c=j
  ·refine⟨⟨b,off,none⟩,by simp[h],fun t u J=>?_⟩;have h0:y.length=0:=by rw[W];omega
   rw[L6.1 h0] at J;simp at J
  ·refine⟨⟨b,off+j*2,none⟩,by simp[h],fun t u J=>?_⟩;rw[C1];exact a1 t u J
 have s1:Hid (y.length=(n - j)*2):=W;have s3:Hid (∀t,t<y.length->(w.drew.cell? ⟨b,off+i*2+t,none⟩).isSome=true/\w.drew.frozen? ⟨b,off+i*2+t,none⟩=false):=fun t U=>by rw[W] at U;rw[u4];exact⟨O _ (by omega),a0 _ (by omega)⟩
 obtain⟨Y,V⟩:∃Y,Y=w.drew.setCells b (off+i*2) y:=⟨_,rfl⟩;have b0:∀ty cc,(Builtin.clear_ #[33] ty #[.slice (some ⟨b,off+(n - 1)*2,none⟩) 1 cc]).run f8 Y=.ok (.tuple #[]) (Y.setCells b (off+(n - 1)*2) zc.cells.toList):=fun ty cc=>by
  refine LJ Y _ _ ty zc Tryz.underlying33 alA (fun u J=>?_) b _ cc (by decide) (fun t U=>?_) (fun t U=>?_)
  ·simp[Value.cells] at J;subst J;rfl
  ·have U:t<2:=U;rw[V];refine jp b _ _ _ (fun j hj=>?_) _ ?_
   ·rw[u4];exact O _ (by omega)
   ·rw[u4];exact O _ (by omega)
  ·have U:t<2:=U;rw[V,F2,u4];exact a0 _ (by omega)
 have a2:Hid (Y=w.drew.setCells b (off+i*2) y):=V;have e1:i+(n - j)=n - 1:=by omega
 have e2:n - (n - 1)=1:=by omega
 have b1:i<=c:=by omega
 have b2:j<=c:=by omega
 have b5:j<=n:=by omega
 have b6:i<=j:=by omega
 have b3:¬(c=n - 1):=by omega
 have b4:n - 1<=n:=by omega
 clear V Z a0 O a1 W hj;go_enter Tryz.func285,Tryz.ntmps285
 go_wp2_with fail
 go_region_law_o (refine step_append_room rfl (.tmp 22) (.tmp 25) 33 rfl 108 i0 2 Tryz.underlying33 a5 a4 b off i c (by simp[Act.eval,Act.put]) A (n - j) (c - j) y (by simp[Act.eval,Act.put]) s1.out a3.out s2.out (by omega) s3.out ?_;rw[<- a2.out,e1])
 go_wp2
 go_ret
 refine⟨rfl,?_⟩;rw[a2.out,M];rfl
theorem ins_shift(b off n c i k M y vc:Nat)(cs vs:List Value)(w:World)(hk:k=i+1)(hi:i<n)(c7:n+1<=c)(c9:c<=9223372036854775807)(b2:M≠b)
  (c6:cs.length=n*2) (a3:vs.length=2)
  (b3:∀j v,cs[j]?=some v->w.cell? ⟨b,off+j,none⟩=some v) (Z:∀j,j<(n+1)*2->(w.cell? ⟨b,off+j,none⟩).isSome=true) (a4:∀j,j<(n+1)*2->w.frozen? ⟨b,off+j,none⟩=false)
  (b1:∀j v,vs[j]?=some v->w.cell? ⟨M,y+j,none⟩=some v) (c0:∀v∈cs,v.oneCell'=true) (c4:∀v∈vs,v.oneCell'=true)
  (tA tB:TypeId) (kA kB:Nat) (a6:w.shape? M=some (tA,kA)) (a7:w.shape? b=some (tB,kB)) (b6:kB≠0) (a5:w.frozen? ⟨M,y,none⟩=false) (b4:w.frozen? ⟨M,kA,none⟩=false) :
  Calls f8 286 #[.slice (some ⟨b,off,none⟩) n c,.int .i64 i,.slice (some ⟨M,y,none⟩) 1 vc] w fun e w' =>
   e=.returned (.slice (some ⟨b,off,none⟩) (n+1) c)/\w'=(w.drew.setCells b (off+k*2) (cs.drop (i*2))).setCells b (off+i*2) vs:=by
 obtain⟨i0,c3,e0,c2,d8⟩:=info_parts info_cell;have c8:Tryz.prog.follows .mixedOrders=true:=by kernel_rfl
 have d5:¬((i:Int)=(n:Int)):=by omega
 have a8:(Tryz.prog.info? 108).map (·.size)=some 2:=by rw[c3];simp[c2]
 have a0:=Tryz.underlying33;have c5:∀lb cb,(callFunc 296 #[.slice (some ⟨M,y,none⟩) 1 vc,.slice (some ⟨b,off+k*2,none⟩) lb cb]).run f8 w=.ok (.value (.bool false)) w:=fun lb cb=>by
  rw[run_callFunc_extern Tryz.func296 (by kernel_rfl) (by kernel_rfl) (by kernel_rfl) (e:=Extern.SlicesOverlaps.overlaps #[33,33] #[4]) (by kernel_rfl),
   Lib.run_overlaps_apart w 33 4 108 a0 2 Tryz.sizeOf108 ⟨M,y,none⟩ ⟨b,off+k*2,none⟩ 1 vc lb cb b2 tA tB kA kB a6 a7 b6 a5 b4]
  rfl
 have U:(cs.drop (i*2)).length=(n - i)*2:=by rw[v9,c6,N9]
 have a2:∀Y V sc,(Builtin.copy_ #[33,33] Y #[.slice (some ⟨b,off+k*2,none⟩) (n+1 - k) V,.slice (some ⟨b,off+i*2,none⟩) (n+1 - i) sc]).run f8 w.drew=.ok (goInt ((n - i:Nat):Int)) (w.drew.setCells b (off+k*2) (cs.drop (i*2))):=fun Y V sc =>
  gk w.drew _ _ Y 108 2 b (off+k*2) (n - i) (n+1 - k) V ⟨b,off+i*2,none⟩ (n+1 - i) sc (cs.drop (i*2)) a0 a8 (by simp only[H6];split <;> omega) U
   (fun j v J=>by rw[C1,u4];exact b3 (i*2+j) v (by rwa [A6] at J))
   (fun j J=>by rw[U] at J;rw[u4];exact Z _ (by omega)) (fun j J=>by rw[U] at J;rw[u4];exact a4 _ (by omega)) (fun v hv=>c0 v (D1 hv))
 obtain⟨W1,O⟩:∃W1,W1=w.drew.setCells b (off+k*2) (cs.drop (i*2)):=⟨_,rfl⟩;have a1:∀t,t<(n+1)*2->(W1.cell? ⟨b,off+t,none⟩).isSome=true:=fun t ht=>by rw[O];exact jp b _ _ _ (fun j J=>by rw[U] at J;rw[u4];exact Z _ (by omega)) _ (Z t ht)
 have b5:∀(W:World),(∀x,W.cell? x=W1.cell? x)->(∀x,W.frozen? x=W1.frozen? x)->∀Y V,(Builtin.copy_ #[33,33] Y #[.slice (some ⟨b,off+i*2,none⟩) (n+1 - i) V,.slice (some ⟨M,y,none⟩) 1 vc]).run f8 W=.ok (goInt 1) (W.setCells b (off+i*2) vs):=fun W b0 c1 Y V =>
  gk W _ _ Y 108 2 b (off+i*2) 1 (n+1 - i) V ⟨M,y,none⟩ 1 vc vs a0 a8 (by simp only[H6];split <;> omega) (by rw[a3])
   (fun j v J=>by rw[C1,b0,O,F4 b _ _ _ _ (fun h _=>absurd h b2)];exact b1 j v J)
   (fun j J=>by rw[a3] at J;rw[b0,u4];exact a1 _ (by omega)) (fun j J=>by rw[a3] at J;rw[c1,O,F2,u4];exact a4 _ (by omega)) c4
 have hE:Hid (W1=w.drew.setCells b (off+k*2) (cs.drop (i*2))):=O;rw[<- O] at a2;have d7:IntKind.i64.wrap ((n:Int)+1)=((n+1:Nat):Int):=by rw[C2];omega
 have d4:IntKind.i64.wrap ((i:Int)+1)=(k:Int):=by rw[C2];omega
 have d6:¬((n:Int)+1 > (c:Int)):=by omega
 have e6:¬(c=k):=by omega
 have e7:¬(c=i):=by omega
 have hin:i<=n:=by omega
 have d3:(k:Int)<=(n:Int)+1:=by omega
 have d1:(i:Int)<=(n:Int)+1:=by omega
 have d2:i<=n+1:=by omega
 clear Z a4 b3 b1 a1 O a6 a7 a5 b4 hk U;go_enter Tryz.func286,Tryz.ntmps286
 go_wp2_with (simp only[c5])
 go_region_law_o (refine step_copy_runI rfl _ _ 33 33 rfl _ _ (by simp[Act.eval,Act.put]) (by simp[Act.eval,Act.put]) (a2 _ _ _) ?_)
 go_wp2_with (at_builtin;refine wpList_copy_runI _ rfl _ _ 33 33 rfl _ _ rfl rfl (b5 _ (fun _=>rfl) (fun _=>rfl) _ _) ?_)
 go_ret
 exact⟨rfl,by rw[hE.out]⟩
theorem ins_end(base:Option Addr)(n c M y vc:Nat)(w w1:World)(J:Value)(a0:n<=c)(Y:c<=9223372036854775807)(W:base=none->c=0)(O:∀Z,(Builtin.append_ #[33,33] Z #[.slice base n c,.slice (some ⟨M,y,none⟩) 1 vc]).run f8 w=.ok J w1) :
  Calls f8 286 #[.slice base n c,.int .i64 n,.slice (some ⟨M,y,none⟩) 1 vc] w fun e w'=>e=.returned J/\w'=w1:=by
 have U:Tryz.prog.follows .mixedOrders=true:=by kernel_rfl
 cases base with
 | none =>
  have V:=W rfl;subst V;obtain rfl:n=0:=by omega
  go_enter Tryz.func286,Tryz.ntmps286
  go_wp2_with (at_builtin;refine Lib.wpList_append_run _ rfl _ _ _ _ rfl _ _ rfl rfl _ _ (O _) ?_)
  all_goals (go_ret;exact⟨rfl,rfl⟩)
 | some a =>
  obtain⟨ab,ao,a1⟩:=a;go_enter Tryz.func286,Tryz.ntmps286
  go_wp2_with (at_builtin;refine Lib.wpList_append_run _ rfl _ _ _ _ rfl _ _ rfl rfl _ _ (O _) ?_)
  all_goals (go_ret;exact⟨rfl,rfl⟩)
theorem ins_grow(b off n i k vb Y vc:Nat)(cs M:List Value)(w:World)(hk:k=i+1)(hi:i<n)(c2:(n+1)*16<=140737488355328)
  (b6:cs.length=n*2) (a5:M.length=2)
  (a2:∀j v,cs[j]?=some v->w.cell? ⟨b,off+j,none⟩=some v)
  (b1:∀j v,M[j]?=some v->w.cell? ⟨vb,Y+j,none⟩=some v) (d3:∀v∈cs,v.oneCell'=true) (d5:∀v∈M,v.oneCell'=true) :
  Calls f8 286 #[.slice (some ⟨b,off,none⟩) n n,.int .i64 i,.slice (some ⟨vb,Y,none⟩) 1 vc] w fun e w' =>
   e=.returned (.slice (some ⟨w.heap.size,0,none⟩) (n+1) (grownCap w (n+1) n 108)) /\
   w'=(((w.alloc (.cells ((cs.take (i*2)).toArray++Builtin.zeroCells zc.cells (n+1 - i)++Builtin.zeroCells zc.cells (grownCap w (n+1) n 108 - (n+1))) 108)).drew.setCells w.heap.size (i*2) M).drew).setCells w.heap.size (k*2) (cs.drop (i*2)):=by
 obtain⟨i0,b5,c3,b0,b2⟩:=info_parts info_cell;have d8:Tryz.prog.follows .mixedOrders=true:=by kernel_rfl
 have a3:=Tryz.underlying33;have u3:=Tryz.underlying3;have h0:¬((i:Int)=(n:Int)):=by omega
 have a8:(Tryz.prog.info? 108).map (·.size)=some 2:=by rw[b5];simp[b0]
 have d1:b<w.heap.size:=block_lt_of_cell (a2 0 _ (g9 (by omega)));have c4:vb<w.heap.size:=block_lt_of_cell (b1 0 _ (g9 (by omega)));have a7:i+(n+1 - i)=n+1:=by omega
 have a6:(Builtin.firstCells i0.size i (.slice (some ⟨b,off,none⟩) i n)).run f8 w.drew=.ok (cs.take (i*2)).toArray w.drew:=by
  rw[b0];exact run_firstCells_some w.drew 2 i ⟨b,off,none⟩ i n (cs.take (i*2)) (by rw[w5];omega) (fun j v J=>by
   rw[C1];rw[u9] at J
   split at J
   ·exact a2 j v J
   ·cases J)
 have f0:IntKind.i64.wrap (((n+1:Nat):Int) - (i:Int))=((n+1 - i:Nat):Int):=by rw[C2];omega
 have a1:∀O,(Builtin.append_ #[33,3] O #[.slice (some ⟨b,off,none⟩) i n,.int .i64 ((n+1 - i:Nat):Int)]).run f8 w =
   .ok (.slice (some ⟨w.heap.size,0,none⟩) (n+1) (grownCap w (n+1) n 108)) (w.drew.alloc (.cells ((cs.take (i*2)).toArray++Builtin.zeroCells zc.cells (n+1 - i)++Builtin.zeroCells zc.cells (grownCap w (n+1) n 108 - (n+1))) 108)):=fun O=>by
  have h:=Lib.run_append_grow_zeros w 33 3 O 108 i0 zc .i64 .i64 a3 u3 b5 c3 (some ⟨b,off,none⟩) i n (cs.take (i*2)) a6 (n+1 - i) (by omega) (by omega) (by omega) (by omega) (by rw[b2];omega) (by rw[b2,a7];exact growslice_fits (by omega) c2);rw[a7] at h;exact h
 obtain⟨G,hG⟩:∃G,G=grownCap w (n+1) n 108:=⟨_,rfl⟩;obtain⟨y,a0⟩:∃y:Array Value,y=(cs.take (i*2)).toArray++Builtin.zeroCells zc.cells (n+1 - i)++Builtin.zeroCells zc.cells (G - (n+1)):=⟨_,rfl⟩;rw[<- hG] at a1 ⊢;rw[<- a0] at a1 ⊢;have c8:(n+1)*2<=y.size:=by rw[a0];simp[Builtin.zeroCells,Value.cells,b6];omega
 obtain⟨U,V⟩:∃U,U=w.drew.alloc (.cells y 108):=⟨_,rfl⟩;rw[<- V] at a1;have hN:∀j,j<(n+1)*2->(U.cell? ⟨w.heap.size,j,none⟩).isSome=true:=fun j J=>by rw[V,O0 (w:=w.drew) y _ w.heap.size j rfl,n8 (by omega)];rfl
 have b4:∀j,U.frozen? ⟨w.heap.size,j,none⟩=false:=fun j=>by rw[V];exact M3 (w:=w.drew) y _ w.heap.size j rfl
 have c9:∀j v,w.cell? ⟨b,j,none⟩=some v->U.cell? ⟨b,j,none⟩=some v:=fun j v h=>by rw[V,H0 (w:=w.drew) _ b j d1];exact h
 have d4:∀j v,w.cell? ⟨vb,j,none⟩=some v->U.cell? ⟨vb,j,none⟩=some v:=fun j v h=>by rw[V,H0 (w:=w.drew) _ vb j c4];exact h
 have c1:∀(W:World),(∀x,W.cell? x=U.cell? x)->(∀x,W.frozen? x=U.frozen? x)->∀O dc,(Builtin.copy_ #[33,33] O #[.slice (some ⟨w.heap.size,i*2,none⟩) (n+1 - i) dc,.slice (some ⟨vb,Y,none⟩) 1 vc]).run f8 W=.ok (goInt 1) (W.setCells w.heap.size (i*2) M):=fun W Z a4 O dc =>
  gk W _ _ O 108 2 w.heap.size (i*2) 1 (n+1 - i) dc ⟨vb,Y,none⟩ 1 vc M a3 a8 (by simp only[H6];split <;> omega) (by rw[a5])
   (fun j v J=>by rw[C1,Z];exact d4 _ v (b1 j v J))
   (fun j J=>by rw[a5] at J;rw[Z];exact hN _ (by omega)) (fun j J=>by rw[a4];exact b4 _) d5
 have f3:n+1<=G:=by rw[hG];exact grownCap_ge w _ _ _
 have e6:G<=9223372036854775807:=by have:=grownCap_le_maxLen w (n+1) n 108 (by unfold maxLen;omega);rw[<- hG] at this;unfold maxLen at this;omega
 have c7:b≠w.heap.size:=by omega
 have b3:(cs.drop (i*2)).length=(n - i)*2:=by rw[v9,b6,N9]
 have c0:∀(W:World),(∀x,W.cell? x=(U.setCells w.heap.size (i*2) M).cell? x)->(∀x,W.frozen? x=(U.setCells w.heap.size (i*2) M).frozen? x)->∀O dc sc,(Builtin.copy_ #[33,33] O #[.slice (some ⟨w.heap.size,k*2,none⟩) (n+1 - k) dc,.slice (some ⟨b,off+i*2,none⟩) (n - i) sc]).run f8 W=.ok (goInt ((n - i:Nat):Int)) (W.setCells w.heap.size (k*2) (cs.drop (i*2))):=fun W Z a4 O dc sc =>
  gk W _ _ O 108 2 w.heap.size (k*2) (n - i) (n+1 - k) dc ⟨b,off+i*2,none⟩ (n - i) sc (cs.drop (i*2)) a3 a8 (by simp only[H6];split <;> omega) b3
   (fun j v J=>by rw[C1,Z,F4 _ _ _ _ _ (fun h _=>absurd h c7),u4];exact c9 _ v (a2 (i*2+j) v (by rwa [A6] at J)))
   (fun j J=>by rw[b3] at J;rw[Z];exact jp _ _ _ _ (fun t ht=>by rw[a5] at ht;exact hN _ (by omega)) _ (hN _ (by omega)))
   (fun j J=>by rw[a4,F2];exact b4 _) (fun v hv=>d3 v (D1 hv))
 subst V;have c5:∀x,((w.alloc (.cells y 108)).drew).cell? x=(w.drew.alloc (.cells y 108)).cell? x:=fun x=>rfl
 have c6:∀x,((w.alloc (.cells y 108)).drew).frozen? x=(w.drew.alloc (.cells y 108)).frozen? x:=fun x=>rfl
 have d2:∀x,(((w.alloc (.cells y 108)).drew.setCells w.heap.size (i*2) M).drew).cell? x=((w.drew.alloc (.cells y 108)).setCells w.heap.size (i*2) M).cell? x:=fun x=>rfl
 have d6:∀x,(((w.alloc (.cells y 108)).drew.setCells w.heap.size (i*2) M).drew).frozen? x=((w.drew.alloc (.cells y 108)).setCells w.heap.size (i*2) M).frozen? x:=fun x=>rfl
 have f1:IntKind.i64.wrap ((n:Int)+1)=((n+1:Nat):Int):=by rw[C2];omega
 have e9:IntKind.i64.wrap ((i:Int)+1)=(k:Int):=by rw[C2];omega
 have g2:IntKind.i64.wrap ((n:Int)+1 - (i:Int))=((n+1 - i:Nat):Int):=by rw[C2];omega
 have e8:(n:Int)+1 - (i:Int)=((n+1 - i:Nat):Int):=by omega
 have g3:(n:Int)+1 > (n:Int):=by omega
 have g1:¬(n=i):=by omega
 have h2:¬(G=i):=by omega
 have f2:¬(G=k):=by omega
 have hin:i<=n:=by omega
 have e7:(i:Int)<=(n:Int):=by omega
 have e0:(k:Int)<=(n:Int)+1:=by omega
 have d7:(i:Int)<=(n:Int)+1:=by omega
 clear a6 a0 hG c8 a7 hk;go_enter Tryz.func286,Tryz.ntmps286
 go_wp2_with (first
  | (at_builtin;refine Lib.wpList_append_run _ rfl _ _ _ _ rfl _ _ rfl rfl _ _ (a1 _) ?_)
  | (at_builtin;refine wpList_copy_runI _ rfl _ _ 33 33 rfl _ _ rfl rfl (c1 _ c5 c6 _ _) ?_))
 go_region_law_o (refine step_copy_runI rfl _ _ 33 33 rfl (.slice (some ⟨w.heap.size,k*2,none⟩) (n+1 - k) (G - k)) (.slice (some ⟨b,off+i*2,none⟩) (n - i) (n - i)) (by simp[Act.eval,Act.put]) (by simp[Act.eval,Act.put]) (c0 _ d2 d6 3 (G - k) (n - i)) ?_)
 go_wp2
 go_ret
 exact⟨rfl,rfl⟩
end Go.Proofs.YtpdfmcmnjikppaaGreat.H
namespace Go.Proofs.YtpdfmcmnjikppaaGreat
set_option maxRecDepth 100000
set_option maxHeartbeats 4000000
open Go.RowKit Go.Lib
theorem bP(b:Nat)(e:TypeId)(O:Nat × Nat):∀(U:List Value) (o:Nat) (w:World) (y:Array Value),w.heap[b]?=some (.cells y e O)->o+U.length<=y.size ->
  ∃J:Array Value,(w.setCells b o U).heap[b]?=some (.cells J e O)/\J.size=y.size/\(∀k,k<o\/o+U.length<=k->J[k]?=y[k]?)/\(∀j v,U[j]?=some v->J[o+j]?=some v)
 | [],o,w,y,h,_=>⟨y,h,rfl,fun _ _=>rfl,fun j v M=>by simp at M⟩
 | v::r,o,w,y,h,hl=>by
  have a0:o+(r.length+1)<=y.size:=hl;have h1:(w.setCell ⟨b,o,none⟩ v).heap[b]?=some (.cells (y.setIfInBounds o v) e O):=by simp[World.setCell,M8,h]
  obtain⟨J,W,Y,V,Z⟩:=bP b e O r (o+1) _ _ h1 (by simp;omega);refine⟨J,W,by rw[Y];simp,fun k hk=>?_,fun j u M=>?_⟩
  ·have hk:k<o\/o+(r.length+1)<=k:=hk;rw[V k (by omega),F3,j7 (by omega)]
  ·cases j with
   | zero =>simp only[p9,b7] at M;subst M;rw[F8,V o (.inl (by omega)),F3,m6 rfl,m6 (by omega)]
   | succ j =>
    have:=Z j u (by simpa using M)
    rwa [show o+(j+1)=o+1+j from by omega]
theorem bE(b:Nat):∀(y:List Value) (o:Nat) (w:World),(w.setCells b o y).os=w.os/\(w.setCells b o y).tape=w.tape/\(w.setCells b o y).output=w.output/\(w.setCells b o y).heap.size=w.heap.size/\∀k,k≠b->(w.setCells b o y).heap[k]?=w.heap[k]?
 | [],o,w=>⟨rfl,rfl,rfl,rfl,fun _ _=>rfl⟩
 | v::r,o,w=>by obtain⟨h1,J,U,M,O⟩:=bE b r (o+1) (w.setCell ⟨b,o,none⟩ v);refine⟨h1,J,U,M.trans (by simp[World.setCell]),fun k hk=>(O k hk).trans ?_⟩;simp only[World.setCell,M8];rw[j7 (by simpa using Ne.symm hk)]
abbrev eX:List S:= [.int .i64,.int .i64]
theorem kc:br f8 108=some eX:=by kernel_rfl
def bh(rows:List b8):List Value:=rows.flatMap fun r => [.int .i64 (gd r 0).int,.int .i64 (gd r 1).int]
theorem fx:∀rows,(bh rows).length=rows.length*2
 | []=>rfl
 | r::rs=>by have:=fx rs;simp only[bh,G5,i6,D8,z8] at *;omega
theorem rO(r:b8)(rs:List b8):bh (r::rs)=.int .i64 (gd r 0).int::.int .i64 (gd r 1).int::bh rs:=rfl
theorem qv:∀(rows:List b8) (i:Nat),i<rows.length->(bh rows)[i*2]?=some (.int .i64 (gd (rows.getD i []) 0).int)/\(bh rows)[i*2+1]?=some (.int .i64 (gd (rows.getD i []) 1).int)
 | [],i,h=>by simp at h
 | r::rs,0,_=>⟨rfl,rfl⟩
 | r::rs,i+1,h=>by have:=qv rs i (by simpa using h);rw[rO,show (i+1)*2=i*2+1+1 from by omega];exact this
theorem De{F:Nat->Value->Prop}{rows:List b8}(h:∀i,i<rows.length->F (i*2) (.int .i64 (gd (rows.getD i []) 0).int)/\F (i*2+1) (.int .i64 (gd (rows.getD i []) 1).int)){k:Nat}{v:Value}(hk:(bh rows)[k]?=some v):F k v:=by
 have J:=(g7.1 hk).1;rw[fx] at J;have hi:k / 2<rows.length:=by omega
 obtain⟨h1,y⟩:=qv rows (k / 2) hi;obtain⟨M,O⟩:=h (k / 2) hi;rcases Nat.mod_two_eq_zero_or_one k with hm | hm
 ·have e:k / 2*2=k:=by omega
  rw[e] at h1 M;rw[hk] at h1;injection h1 with h1;rw[h1];exact M
 ·have e:k / 2*2+1=k:=by omega
  rw[e] at y O;rw[hk] at y;injection y with y;rw[y];exact O
theorem kJ(rows:List b8):∀v∈bh rows,v.oneCell'=true:=fun v hv=>by obtain⟨k,hk⟩:=F9 hv;exact De (F:=fun _ v=>v.oneCell'=true) (fun i _=>⟨rfl,rfl⟩) hk
theorem aeU{w:World}{rows:List b8}{b cap:Nat}{J:Array Value}(V:w.heap[b]?=some (.cells J 108 (0,0)))(y:J.size=cap*2)(O:rows.length<=cap)(M:cap<=9223372036854775807)
  (hc:∀i,i<rows.length->J[i*2]?=some (.int .i64 (gd (rows.getD i []) 0).int)/\J[i*2+1]?=some (.int .i64 (gd (rows.getD i []) 1).int)):eh w 108 eX rows (.slice (some ⟨b,0,none⟩) rows.length cap) (some b):=by
 refine .inr ⟨b,cap,J,rfl,rfl,O,M,V,y,fun i j s hi y=>?_⟩;obtain⟨h1,U⟩:=hc i hi
 match j,y with
 | 0,y=>injection y with y;subst y;exact⟨_,h1,rfl⟩
 | 1,y=>injection y with y;subst y;exact⟨_,U,rfl⟩
theorem akc{w:World}{rows:List b8}{u:Value}{B:Option Nat}(h:eh w 108 eX rows u B):(B=none/\rows = []/\∃A,u=.slice A 0 0) \/
  ∃(b cap:Nat) (y:Array Value),B=some b/\u=.slice (some ⟨b,0,none⟩) rows.length cap/\rows.length<=cap/\cap<=9223372036854775807/\w.heap[b]?=some (.cells y 108 (0,0))/\y.size=cap*2 /\
   ∀i,i<rows.length->y[i*2]?=some (.int .i64 (gd (rows.getD i []) 0).int)/\y[i*2+1]?=some (.int .i64 (gd (rows.getD i []) 1).int):=by
 rcases h with h | ⟨b,cap,y,h1,h2,h3,h4,h5,h6,h7⟩
 ·exact .inl h
 ·refine .inr ⟨b,cap,y,h1,h2,h3,h4,h5,h6,fun i hi=>?_⟩;obtain⟨V,J,O⟩:=h7 i 0 (.int .i64) hi rfl;obtain⟨W,M,U⟩:=h7 i 1 (.int .i64) hi rfl;rw[O] at J;rw[U] at M;exact⟨J,M⟩
theorem YJ{w:World}{prot:Nat->Nat}{x:D}{v:Value}(h:VD f8 w prot (.sl 108) x v):∃A c,v=.slice A x.rows.length c/\x.rows.length<=c/\c<=9223372036854775807 /\
  (0<x.rows.length->∃b o,A=some ⟨b,o,none⟩)/\∀b o,A=some ⟨b,o,none⟩->∀k v,(bh x.rows)[k]?=some v->w.cell? ⟨b,o+k,none⟩=some v/\o+k<prot b:=by
 cases h with
 | sl e d A c row u J h1 V O Y =>
  rw[kc] at J;injection J with J
  subst J;refine⟨A,c,rfl,h1,V,fun W=>?_,fun b o y k v hk=>?_⟩
  ·obtain⟨b,o,y,_⟩:=O 0 0 W (by decide);exact⟨b,o,y⟩
  ·subst y;have M:∀i j,i<x.rows.length->j<2->∃v,w.cell? ⟨b,o+(i*2+j),none⟩=some v/\o+(i*2+j)<prot b/\v=.int .i64 (gd (x.rows.getD i []) j).int:=fun i j hi U=>by obtain⟨b',o',y,hc,hp⟩:=O i j hi U;injection y with y;injection y with e1 e2 _;subst e1;subst e2;have hv:=Y i j (.int .i64) hi (by match j,U with | 0,_=>rfl | 1,_=>rfl);generalize u i j=z at *;cases hv;exact⟨_,hc,hp,rfl⟩
   refine De (F:=fun k v=>w.cell? ⟨b,o+k,none⟩=some v/\o+k<prot b) (fun i hi=>?_) hk;obtain⟨v0,Z,q2,rfl⟩:=M i 0 hi (by decide);obtain⟨v1,q3,q4,rfl⟩:=M i 1 hi (by decide);exact⟨⟨by simpa using Z,by simpa using q2⟩,q3,q4⟩
theorem Zc(a:Addr)(n c:Nat)(y:List Value)(w:World)(hl:y.length=n*2)(hn:n<=1000000)(hc:∀j u,y[j]?=some u->w.cell? (a.add j)=some u)(h1:∀u∈y,u.oneCell'=true) :
  Calls f8 192 #[.slice (some a) n c] w fun e w'=>∃J,e=.returned J/\w'.ownsRow w.heap.size 108 2 J n y/\Below w.heap.size w w':=by
 obtain⟨i0,Z,W,Y,a0⟩:=info_parts H.info_cell;have a1:Tryz.prog.follows .mixedOrders=true:=by kernel_rfl
 have a3:∀(w:World) (a:Option Addr) (n c O V:Nat),(binOp .eql 33 (.slice a n c) (.slice none O V)).run f8 w=.ok (.bool a.isNone) w:=fun w a n c O V=>Lib.run_eql_slice_nil w _ _ a n c O V Tryz.underlying33
 have A:Aside (∀j u,y[j]?=some u->w.cell? (a.add j)=some u):=hc;clear hc;go_enter Tryz.func192,Tryz.ntmps192
 go_wp2_with (at_builtin;refine wpList_append_own _ rfl _ _ 33 rfl w.heap.size 108 i0 H.zc 2 16 Tryz.underlying33 Z W Y a0 rfl (by decide) _ _ _ rfl (L2 w #[] 0 (i8 _) (n5 _) (by simp)) a n c y rfl ?qc1 ?qc2 ?qc3 ?qc4 ?qc5 ?qc6 ?_)
 case qc1=>exact hl
 case qc2 =>intro j u hj;exact Lib.cell?_alloc_some _ (A.out j u hj)
 case qc3=>exact h1
 case qc4=>rw[m0];unfold maxLen;omega
 case qc5=>rw[m0];omega
 case qc6=>simp
 intro J w1 U M a2;go_wp2
 go_ret
 refine⟨J,rfl,by simpa using U,?_⟩;exact ((Below.refl _ w).alloc (i8 _) _).grown M (by simp) (by intro k hk;simp[Value.ownBlock] at hk;omega)
theorem adr(n c:Nat)(w:World) :
  Calls f8 192 #[.slice none n c] w fun e w'=>e=.returned (.slice none 0 0)/\w'=w:=by
 have M:Tryz.prog.follows .mixedOrders=true:=by kernel_rfl
 have O:∀(w:World) (a:Option Addr) (n c y J:Nat),(binOp .eql 33 (.slice a n c) (.slice none y J)).run f8 w=.ok (.bool a.isNone) w:=fun w a n c y J=>Lib.run_eql_slice_nil w _ _ a n c y J Tryz.underlying33
 go_enter Tryz.func192,Tryz.ntmps192;go_wp2
 go_ret
 exact⟨rfl,rfl⟩
theorem RN{prot:Nat->Nat}{w w':World}{x:D}{v:Value}(J:∀b,w.heap.size<=b->prot b=0)(O:Below w.heap.size w w')(W:w'.ownsRow w.heap.size 108 2 v x.rows.length (bh x.rows)) :
  ∃g',Res f8 prot w w' ⟨.one (.c (.own (0,0) true 108)),[x]⟩ v g':=by
 obtain⟨hl,⟨rfl,Y⟩ | ⟨blk,cap,cur,rfl,hblk,hh,hcap,hmax,hsz,htk⟩⟩:=W
 ·exact⟨g0 0 prot,O,⟨eX,kc,.inl ⟨v7 Y,rfl,none,rfl⟩⟩,fun _ _=>rfl,fun b M=>⟨J b (m8 O.size M),rfl⟩⟩
 ·refine⟨⟨prot,fun b=>if b=blk then some (.inr (0,0)) else none,fun _=>0,fun _=>blk,fun _=>x.rows.length,fun _=>2,fun _=>108,fun _ => [],fun _=>0,fun _=>False⟩,O,⟨eX,kc,.inr ⟨cap,cur,108,rfl,hcap,⟨by unfold maxLen at hmax;omega,rfl,rfl⟩,hblk,m6 rfl,hh,hsz,rfl,rfl,?_,?_⟩⟩,fun _ _=>rfl,fun b M=>⟨J b (m8 O.size M),?_⟩⟩
  ·show prot blk=0;exact J blk hblk
  ·intro i j s hi y;have hi:i<x.rows.length:=hi;obtain⟨U,V⟩:=qv x.rows i hi;rw[<- htk,u9,m6 (by omega)] at U V
   match j,y with
   | 0,y =>
    injection y with y
    subst y;exact⟨.int .i64 (gd (x.rows.getD i []) 0).int,by simpa using U,.of_vd (.int .i64 _) (.inr rfl)⟩
   | 1,y =>
    injection y with y
    subst y;exact⟨.int .i64 (gd (x.rows.getD i []) 1).int,by simpa using V,.of_vd (.int .i64 _) (.inr rfl)⟩
  ·have:=aP hh;exact j7 (by omega)
def DZ:Ent:=(192,e1 (sd (.sl 108)) fun p=>(⟨.one (.c (.own (0,0) true 108)),[.l (gd p 0).rows]⟩,leI ((gd p 0).rows.length:Int) 1000000))
theorem Cd:ay f8 DZ:=cK fun p h=>by
 have h:leI ((gd p 0).rows.length:Int) 1000000=true:=h;simp only[leI,g5] at h;refine aJ.of rfl ⟨cB Tryz.func192 (by kernel_rfl) (by kernel_rfl),fun w prot Z J O=>?_⟩;obtain⟨u,hu,hv⟩:=J.2 0 _ rfl;have a0:Z = #[u]:=by
  have hs:Z.size=1:=J.1;refine Array.ext (by simpa using hs) fun i h1 h2=>?_
  have:i=0:=by omega
  subst this;rw[n8 h1] at hu;injection hu
 subst a0;have hv:VD f8 w prot (.sl 108) (gd p 0) u:=hv;generalize gd p 0=x at *;obtain⟨A,c,rfl,h1,h2,h3,h4⟩:=YJ hv;cases A with
 | none =>
  have Y:x.rows.length=0:=by
   rcases E0 x.rows.length with h' | h'
   ·exact h'
   ·obtain⟨b,o,M⟩:=h3 h';cases M
  have a1:x.rows = []:=v7 Y;refine (adr x.rows.length c w).mono ?_;rintro ex w' ⟨rfl,rfl⟩;obtain⟨g',y⟩:=RN (x:=x) (prot:=prot) (w:=w') (w':=w') O (Below.refl _ _) (v:=.slice none 0 0) ⟨fx _,.inl ⟨rfl,Y⟩⟩;exact⟨_,g',rfl,y.below,y.val,y.prot,y.fresh⟩
 | some ad =>
  refine (Zc ad x.rows.length c (bh x.rows) w (fx _) (by omega) (fun j u hj=>?_) (kJ _)).mono ?_
  ·have V:0<x.rows.length:=by have:=(g7.1 hj).1;rw[fx] at this;omega
   obtain⟨b,o,M⟩:=h3 V;injection M with M;subst M;rw[C1];exact (h4 b o rfl j u hj).1
  ·rintro ex w' ⟨v',rfl,U,W⟩;obtain⟨g',y⟩:=RN (x:=x) (prot:=prot) O W U;exact⟨_,g',rfl,y.below,y.val,y.prot,y.fresh⟩
theorem ro(a b:List b8):bh (a++b)=bh a++bh b:=by simp[bh]
theorem wZ:∀(rows:List b8) (i:Nat),bh (rows.take i)=(bh rows).take (i*2)
 | [],i=>by simp[bh]
 | r::rs,0=>by simp[bh]
 | r::rs,i+1=>by rw[F5,rO,rO,wZ rs i,show (i+1)*2=i*2+1+1 from by omega,F5,F5]
theorem yg:∀(rows:List b8) (i:Nat),bh (rows.drop i)=(bh rows).drop (i*2)
 | [],i=>by simp[bh]
 | r::rs,0=>by simp[bh]
 | r::rs,i+1=>by rw[K8,rO,yg rs i,show (i+1)*2=i*2+1+1 from by omega,K8,K8]
theorem Fq{w:World}{rows:List b8}{b cap n:Nat}{y:Array Value}(O:w.heap[b]?=some (.cells y 108 (0,0)))(V:n=rows.length)(U:y.size=cap*2)(M:rows.length<=cap)(J:cap<=9223372036854775807)
  (hc:∀(k:Nat) v,(bh rows)[k]?=some v->y[k]?=some v):eh w 108 eX rows (.slice (some ⟨b,0,none⟩) n cap) (some b):=by
 subst V;exact aeU O U M J fun i hi=>⟨hc _ _ (qv rows i hi).1,hc _ _ (qv rows i hi).2⟩
theorem Gn{w:World}{rows:List b8}{u:Value}{B:Option Nat}(h:eh w 108 eX rows u B):(B=none/\rows = []/\∃A,u=.slice A 0 0) \/
  ∃(b cap:Nat) (y:Array Value),B=some b/\u=.slice (some ⟨b,0,none⟩) rows.length cap/\rows.length<=cap/\cap<=9223372036854775807/\w.heap[b]?=some (.cells y 108 (0,0))/\y.size=cap*2 /\
   ∀(k:Nat) v,(bh rows)[k]?=some v->y[k]?=some v:=by
 rcases akc h with h | ⟨b,cap,y,h1,h2,h3,h4,h5,h6,h7⟩
 ·exact .inl h
 ·exact .inr ⟨b,cap,y,h1,h2,h3,h4,h5,h6,fun k v hk=>De (F:=fun k v=>y[k]?=some v) h7 hk⟩
theorem vl{P:Program}{w:World}{prot:Nat->Nat}{k:IntKind}{x:D}{v:Value}(h:VD P w prot (.int k) x v):v=.int k x.int:=by cases h;rfl
theorem pX{P:Program}{prot:Nat->Nat}{w:World}{args:List T}{y:Array Value}(h:lq P prot w args y)(us:List Value)(hl:us.length=args.length)(J:∀(j:Nat) t u,args[j]?=some t->y[j]?=some u->us[j]?=some u):y=us.toArray:=by
 refine Array.ext (by simp[h.1,hl]) fun i h1 M=>?_
 have hi:i<args.length:=by rw[<- h.1];exact h1
 have:=J i _ _ (g9 hi) (n8 h1);rw[g9 (by omega)] at this;simp only[b7] at this;simpa using this.symm
theorem ajv{P:Program}{prot:Nat->Nat}{w:World}{q r:b8}{M:Array Value}(h:lq P prot w [⟨ri,q⟩,⟨ri,r⟩] M):M = #[.int .i64 (gd q 0).int,.int .i64 (gd r 0).int]:=by
 refine pX h [.int .i64 (gd q 0).int,.int .i64 (gd r 0).int] rfl fun j t u h1 O=>?_
 obtain⟨U,y,J⟩:=h.2 j t h1;rw[O] at y;injection y with y;subst y
 match j,h1 with
 | 0,h1 =>
  injection h1 with h1;subst h1
  have:=vl (k:=.i64) (show VD P w prot (.int .i64) (gd q 0) u from J);rw[this];rfl
 | 1,h1 =>
  injection h1 with h1;subst h1
  have:=vl (k:=.i64) (show VD P w prot (.int .i64) (gd r 0) u from J);rw[this];rfl
theorem eW{w:World}{b:Nat}{y:Array Value}{e:TypeId}{J:Nat × Nat}(h:w.heap[b]?=some (.cells y e J))(k:Nat):w.cell? ⟨b,k,none⟩=y[k]?:=by simp[World.cell?,h]
theorem iC{w:World}{b:Nat}{y:Array Value}{e:TypeId}(h:w.heap[b]?=some (.cells y e (0,0)))(k:Nat):w.frozen? ⟨b,k,none⟩=false:=by simp[World.frozen?,h]
def nH(rows:List b8)(i:Nat):List b8:=rows.take i++rows.drop (i+1)
def acS:Ent:=(285,e3 (sd (.sl 108)) ri ri fun p q r=>(⟨.tup [.agg [.any]],[.l (nH (gd p 0).rows (gd q 0).int.toNat)]⟩,leI ((gd p 0).rows.length:Int) 1000000&&ah (gd q 0).int (gd p 0).rows.length&&((gd r 0).int==(gd q 0).int+1)))
theorem adi:ay f8 acS:=gW fun p q r h=>by
 have h:(leI ((gd p 0).rows.length:Int) 1000000&&ah (gd q 0).int (gd p 0).rows.length&&((gd r 0).int==(gd q 0).int+1))=true:=h;simp only[a9,leI,g5,u7] at h;obtain⟨⟨h1,h2⟩,h3⟩:=h;obtain⟨c0,V⟩:0<=(gd q 0).int/\(gd q 0).int<((gd p 0).rows.length:Int):=by simpa [ah] using h2
 refine aJ.ofK rfl ⟨cB Tryz.func285 (by kernel_rfl) (by kernel_rfl),fun e x rest row y J b0 w prot u B vs hO hB b6 O c6=>?_⟩;injection y with y hre
 injection y with y hp
 injection y with y
 injection y with y
 injection y with y
 injection y with y
 subst y hp hre;rw[kc] at J;injection J with J
 subst J;have a0:=ajv (O w (aM.refl w B));subst a0;have h1:(x.rows.length:Int)<=1000000:=h1;have V:(gd q 0).int<(x.rows.length:Int):=V;obtain⟨i,hi⟩:∃i:Nat,(gd q 0).int=i:=⟨(gd q 0).int.toNat,by omega⟩;obtain⟨n,U⟩:∃n,n=x.rows.length:=⟨_,rfl⟩;have hin:i<n:=by omega
 have Y:(gd [D.l (nH x.rows (gd q 0).int.toNat)] 0).rows=nH x.rows i:=by rw[hi];rfl
 show Calls _ _ _ w fun ex w'=>∃v' B',ex=.returned v'/\aM w w' B/\eh w' _ _ (gd [D.l (nH x.rows (gd q 0).int.toNat)] 0).rows v' B'/\_
 rw[Y];rcases Gn hO with⟨_,h0,_⟩ | ⟨b,cap,arr,rfl,rfl,hle,h63,hh,hs,hc⟩
 ·rw[h0] at U;simp at U;omega
 ·rw[<- U] at hle ⊢;have M:(bh x.rows).length=n*2:=by rw[fx,U]
  have:=H.del_cell b 0 n cap i (i+1) (bh x.rows) w rfl hin hle h63 M (fun j v hj=>by rw[m0,eW hh];exact hc j v hj) (fun j _=>iC hh _) (kJ _);rw[show (#[Value.slice (some ⟨b,0,none⟩) n cap] ++ #[.int .i64 (gd q 0).int,.int .i64 (gd r 0).int]:Array Value) = #[.slice (some ⟨b,0,none⟩) n cap,.int .i64 i,.int .i64 ((i+1:Nat):Int)] from by rw[hi,h3,hi];rfl];refine this.mono ?_;rintro ex w' ⟨rfl,rfl⟩;have a8:((bh x.rows).drop ((i+1)*2)).length=(n - (i+1))*2:=by rw[v9,M];omega
  obtain⟨Z,a1,a2,a3,a4⟩:=bP b 108 (0,0) ((bh x.rows).drop ((i+1)*2)) (0+i*2) w.drew arr hh (by rw[a8,hs];omega);have hz:H.zc.cells.toList.length=2:=rfl;obtain⟨b5,b1,b2,b3,b4⟩:=bP b 108 (0,0) H.zc.cells.toList (0+(n - 1)*2) _ Z a1 (by rw[hz,a2,hs];omega);obtain⟨c1,c2,c3,c4,c5⟩:=bE b ((bh x.rows).drop ((i+1)*2)) (0+i*2) w.drew;obtain⟨d1,d2,d3,d4,d5⟩:=bE b H.zc.cells.toList (0+(n - 1)*2) (w.drew.setCells b (0+i*2) ((bh x.rows).drop ((i+1)*2)));have W:(nH x.rows i).length=n - 1:=by simp[nH];omega
  refine⟨_,some b,rfl,⟨d1.trans c1,d2.trans c2,d3.trans c3,D5 (d4.trans c4).symm,fun k _ hk=>(d5 k (fun e=>hk (by rw[e]))).trans (c5 k (fun e=>hk (by rw[e])))⟩,?_,fun b hb=>.inl hb⟩;refine Fq b1 W.symm (by rw[b2,a2,hs]) (by omega) h63 fun k v hk=>?_
  have a6:=(g7.1 hk).1;rw[fx,W] at a6;rw[b3 k (.inl (by omega))];unfold nH at hk;rw[ro,wZ,yg,A5] at hk;have a7:((bh x.rows).take (i*2)).length=i*2:=by rw[w5,M];omega
  rw[a7] at hk
  split at hk
  ·rename_i a5;rw[a3 k (.inl (by omega))];rw[u9,m6 a5] at hk;exact hc k v hk
  ·have:=a4 (k - i*2) v hk
   rwa [show 0+i*2+(k - i*2)=k from by omega] at this
theorem ajZ{prot:Nat->Nat}{w:World}{q r:b8}{M:Array Value}(h:lq f8 prot w [⟨ri,q⟩,⟨sd (.sl 108),r⟩] M):∃u,M = #[.int .i64 (gd q 0).int,u]/\VD f8 w prot (.sl 108) (gd r 0) u:=by
 obtain⟨u,J,hv⟩:=h.2 1 _ rfl;refine⟨u,?_,hv⟩;refine pX h [.int .i64 (gd q 0).int,u] rfl fun j t V h1 O=>?_
 match j,h1 with
 | 0,h1 =>
  injection h1 with h1;subst h1
  obtain⟨W,y,U⟩:=h.2 0 _ rfl;rw[O] at y;injection y with y;subst y;have:=vl (k:=.i64) (show VD f8 w prot (.int .i64) (gd q 0) V from U);rw[this];rfl
 | 1,h1 =>
  rw[O] at J;injection J with J;subst J
  rfl
theorem akj{w:World}{rows:List b8}{r:b8}{base:Option Addr}{n c:Nat}{B:Option Nat}(hO:eh w 108 eX rows (.slice base n c) B)(V y vc:Nat)(hn:rows.length<=1000000)
  (hv:∀(k:Nat) v,(bh [r])[k]?=some v->w.cell? ⟨V,y+k,none⟩=some v) :
  ∃v' w1 B',(∀U,(Builtin.append_ #[33,33] U #[.slice base n c,.slice (some ⟨V,y,none⟩) 1 vc]).run f8 w=.ok v' w1)/\aM w w1 B/\eh w1 108 eX (rows ++ [r]) v' B'/\∀b,B'=some b->B=some b\/w.heap.size<=b:=by
 obtain⟨i0,Y,a2,O,a0⟩:=info_parts H.info_cell;have W:(bh [r]).length=1*i0.size:=by rw[O];rfl
 have J:∀(j:Nat) v,(bh [r])[j]?=some v->w.cell? ((⟨V,y,none⟩:Addr).add j)=some v:=fun j v hj=>by rw[C1];exact hv j v hj
 have a7:H.zc.cells.size=2:=rfl
 -- a new block
 have a3:∀(old:Nat),(w.drew.alloc (.cells ((bh rows).toArray++(bh [r]).toArray++Builtin.zeroCells H.zc.cells (grownCap w (rows.length+1) old 108 - (rows.length+1))) 108)).heap.size=w.heap.size+1 /\
   aM w (w.drew.alloc (.cells ((bh rows).toArray++(bh [r]).toArray++Builtin.zeroCells H.zc.cells (grownCap w (rows.length+1) old 108 - (rows.length+1))) 108)) B /\
   eh (w.drew.alloc (.cells ((bh rows).toArray++(bh [r]).toArray++Builtin.zeroCells H.zc.cells (grownCap w (rows.length+1) old 108 - (rows.length+1))) 108)) 108 eX (rows ++ [r]) (.slice (some ⟨w.heap.size,0,none⟩) (rows.length+1) (grownCap w (rows.length+1) old 108)) (some w.heap.size):=by
  intro old;have a1:=grownCap_ge w (rows.length+1) old 108;have a6:=grownCap_le_maxLen w (rows.length+1) old 108 (by unfold maxLen;omega);refine⟨by simp[World.alloc],⟨rfl,rfl,rfl,by simp[World.alloc],fun k hk _=>Below.heap_alloc w.drew _ k hk⟩,Fq (by letI:Low:=Dy;exact gH w.drew _) (by simp) ?_ (by simpa using a1) (by unfold maxLen at a6;omega) fun k v hk=>?_⟩
  ·simp only[D2,B8,fx,size_zeroCells,a7,D8,z8];omega
  ·rw[ro] at hk;have a8:=(g7.1 hk).1;rw[v5 (by simpa using a8)];simpa using hk
 have b3:B=none->rows = []/\n=0/\c=0:=by
  rintro rfl;rcases hO with⟨_,h0,A,hA⟩ | ⟨_,_,_,M,_⟩
  ·injection hA with _ e1 e2;exact⟨h0,e1,e2⟩
  ·cases M
 rcases Gn hO with⟨rfl,rfl,A,hA⟩ | ⟨b,cap,arr,rfl,hA,hle,h63,hh,hs,hc⟩
 ·injection hA with e0 e1 e2
  subst e0 e1 e2;obtain⟨_,q2,q3⟩:=a3 0;refine⟨_,_,some w.heap.size,fun U=>?_,q2,q3,fun b M=>.inr (by injection M with M;omega)⟩;cases base with
  | none =>have:=run_append_nil (P:=f8) w 33 U 108 i0 H.zc Tryz.underlying33 Y a2 ⟨V,y,none⟩ 1 vc (bh [r]) W J (by omega) (by omega) (by rw[a0];omega);rw[this];simp[bh]
  | some a =>have:=run_append_grow (P:=f8) w 33 U 108 i0 H.zc Tryz.underlying33 Y a2 a 0 0 [] (by simp) (fun j v hj=>by simp at hj) ⟨V,y,none⟩ 1 vc (bh [r]) W J (by omega) (by omega) (by rw[a0];exact growslice_fits (by omega) (by omega));rw[this];rfl
 ·injection hA with e0 e1 e2
  subst e0 e1 e2;by_cases Z:rows.length+1<=c
  ·have a5:rows.length*i0.size+(bh [r]).length<=arr.size:=by rw[O,hs];show _+2<=_;omega
   have b2:(bh [r]).length=2:=rfl;have b1:(bh rows).length=rows.length*2:=fx rows;refine⟨_,_,some b,fun U=>run_append_room (P:=f8) w 33 U 108 i0 Tryz.underlying33 Y b rows.length c arr hh ⟨V,y,none⟩ 1 vc (bh [r]) W J (kJ _) Z a5,⟨rfl,rfl,rfl,by simp,fun k _ hk=>setRow_other w b k _ (fun e=>hk (by rw[e]))⟩,?_,fun b M=>.inl M⟩;refine Fq (setRow_heap w b arr _ _ _ hh) (by simp) ?_ (by simpa using Z) h63 fun k v hk=>?_
   ·simp only[B8,i6,w5,v9,F7,b2,O];omega
   ·rw[ro,A5] at hk;rw[G6,C0,A5,O];have b0:(arr.toList.take (rows.length*2)).length=rows.length*2:=by have e0:arr.toList.length=arr.size:=F7;rw[w5,e0,hs];omega
    rw[b0];rw[b1] at hk
    split at hk
    ·rename_i a4;rw[m6 a4,u9,m6 a4,M9];exact hc k v (by exact hk)
    ·rename_i a1;rw[j7 a1,z9 (g7.1 hk).1];exact hk
  ·obtain⟨_,q2,q3⟩:=a3 c;refine⟨_,_,some w.heap.size,fun U=>?_,q2,q3,fun b M=>.inr (by injection M with M;omega)⟩;exact run_append_grow (P:=f8) w 33 U 108 i0 H.zc Tryz.underlying33 Y a2 ⟨b,0,none⟩ rows.length c (bh rows) (by rw[fx,O]) (fun j v hj=>by rw[C1,m0,eW hh];exact hc j v hj) ⟨V,y,none⟩ 1 vc (bh [r]) W J (by omega) (by omega) (by rw[a0];exact growslice_fits (by omega) (by omega))
def eb(rows:List b8)(i:Nat)(r:b8):List b8:=rows.take i++r::rows.drop i
theorem Pb(rows:List b8)(i:Nat)(r:b8)(hi:i<=rows.length){k:Nat}{v:Value}(hk:(bh (eb rows i r))[k]?=some v) :
  (k<i*2/\(bh rows)[k]?=some v)\/(i*2<=k/\k<(i+1)*2/\(bh [r])[k - i*2]?=some v)\/((i+1)*2<=k/\((bh rows).drop (i*2))[k - (i+1)*2]?=some v):=by
 have M:((bh rows).take (i*2)).length=i*2:=by rw[w5,fx];omega
 unfold eb at hk;rw[ro,wZ,show r::rows.drop i = [r]++rows.drop i from rfl,ro,yg,A5,M] at hk
 split at hk
 ·rename_i y;rw[u9,m6 y] at hk;exact .inl ⟨y,hk⟩
 ·rename_i O;rw[A5] at hk
  split at hk
  ·rename_i y;have y:k - i*2<2:=y;exact .inr (.inl ⟨by omega,by omega,hk⟩)
  ·rename_i J;have J:¬k - i*2<2:=J;refine .inr (.inr ⟨by omega,?_⟩);rw[show k - (i+1)*2=k - i*2 - (bh [r]).length from by show _=_ - 2;omega];exact hk
def abL:Ent:=(286,e3 (sd (.sl 108)) ri (sd (.sl 108)) fun p q r=>(⟨.tup [.agg [.kb true]],[.l (eb (gd p 0).rows (gd q 0).int.toNat ((gd r 0).rows.getD 0 []))]⟩,leI ((gd p 0).rows.length:Int) 1000000&&leI 0 (gd q 0).int&&leI (gd q 0).int ((gd p 0).rows.length:Int)&&((gd r 0).rows.length==1)))
theorem adf:ay f8 abL:=gW fun p q r h=>by
 have h:(leI ((gd p 0).rows.length:Int) 1000000&&leI 0 (gd q 0).int&&leI (gd q 0).int ((gd p 0).rows.length:Int)&&((gd r 0).rows.length==1))=true:=h;simp only[a9,leI,g5,u7] at h;obtain⟨⟨⟨h1,h9⟩,d8⟩,h3⟩:=h;refine aJ.ofK rfl ⟨cB Tryz.func286 (by kernel_rfl) (by kernel_rfl),fun e x rest row J U h5 w prot u B vs hO hB h8 d6 c7=>?_⟩;injection J with J hre
 injection J with J hp
 injection J with J
 injection J with J
 injection J with J
 injection J with J
 subst J hp hre;rw[kc] at U;injection U with U
 subst U;obtain⟨uv,rfl,hv⟩:=ajZ (d6 w (aM.refl w B));have h1:(x.rows.length:Int)<=1000000:=h1;have d8:(gd q 0).int<=(x.rows.length:Int):=d8;obtain⟨r0,a6⟩:∃r0,(gd r 0).rows = [r0]:=List.length_eq_one_iff.1 h3;obtain⟨VA,vc,rfl,_,h6,e9,Y⟩:=YJ hv;rw[a6] at e9 Y;obtain⟨M,vo,rfl⟩:=e9 (by simp);have Y:=Y M vo rfl;obtain⟨i,hi⟩:∃i:Nat,(gd q 0).int=i:=⟨(gd q 0).int.toNat,by omega⟩;have f0:(gd [D.l (eb x.rows (gd q 0).int.toNat ((gd r 0).rows.getD 0 []))] 0).rows=eb x.rows i r0:=by rw[hi,a6];rfl
 have c7:=c7 rfl 1 _ _ _ rfl (by rw[a6];simp);obtain⟨h7,f3,vE,c0,b0⟩:=c7;injection c0 with c0
 injection c0 with e1 e2 _
 subst e1 e2;show Calls _ _ _ w fun ex w'=>∃v' B',ex=.returned v'/\aM w w' B/\eh w' _ _ (gd [D.l (eb x.rows (gd q 0).int.toNat ((gd r 0).rows.getD 0 []))] 0).rows v' B'/\_
 rw[f0,a6,hi];have b6:∀(k:Nat) v,(bh [r0])[k]?=some v->w.cell? ⟨M,0+k,none⟩=some v:=fun k v hk=>(Y k v hk).1
 have i0:0<prot M:=Nat.lt_of_le_of_lt (n5 _) (Y 0 _ rfl).2;show Calls _ _ #[u,.int .i64 (i:Int),.slice (some ⟨M,0,none⟩) 1 vc] w _;by_cases a8:i=x.rows.length
 ·have f1:eb x.rows i r0=x.rows ++ [r0]:=by unfold eb;rw[a8];simp
  rw[f1];have c8:∃base c,u=.slice base x.rows.length c/\x.rows.length<=c/\c<=9223372036854775807/\(base=none->c=0):=by
   rcases Gn hO with⟨_,h0,A,rfl⟩ | ⟨b,cap,arr,rfl,rfl,Z,O,_⟩
   ·exact⟨A,0,by rw[h0];rfl,by rw[h0];simp,by omega,fun _=>rfl⟩
   ·exact⟨_,cap,rfl,Z,O,fun h=>by cases h⟩
  obtain⟨base,c,rfl,Z,O,h4⟩:=c8;obtain⟨v',w1,B',k1,k2,k3,k4⟩:=akj hO M 0 vc (by omega) b6;rw[a8];refine (H.ins_end base x.rows.length c M 0 vc w w1 v' Z O h4 k1).mono ?_;rintro ex w' ⟨rfl,rfl⟩;exact⟨_,B',rfl,k2,k3,k4⟩
 ·have W:i<x.rows.length:=by omega
  rcases Gn hO with⟨_,h0,_⟩ | ⟨b,cap,arr,rfl,rfl,Z,O,hh,hs,hc⟩
  ·rw[h0] at W;simp at W
  ·have g1:M≠b:=by rintro rfl;have:=hB M rfl;omega
   obtain⟨n,hn⟩:∃n,n=x.rows.length:=⟨_,rfl⟩;rw[<- hn] at Z W ⊢;have a7:(bh x.rows).length=n*2:=by rw[fx,hn]
   have e6:∀(j:Nat) v,(bh x.rows)[j]?=some v->w.cell? ⟨b,0+j,none⟩=some v:=fun j v hj=>by rw[m0,eW hh];exact hc j v hj
   have e7:(eb x.rows i r0).length=n+1:=by simp[eb];omega
   have e8:((bh x.rows).drop (i*2)).length=(n - i)*2:=by rw[v9,a7];omega
   have c6:(bh [r0]).length=2:=rfl;by_cases c9:n+1<=cap
   ·have:=H.ins_shift b 0 n cap i (i+1) M 0 vc (bh x.rows) (bh [r0]) w rfl W c9 O g1 a7 rfl e6
     (fun j hj=>by rw[m0,eW hh,n8 (by omega)];rfl) (fun j _=>iC hh _) b6 (kJ _) (kJ _) vE 108 f3.size arr.size (by simp[World.shape?,b0]) (by simp[World.shape?,hh]) (by omega) (iC b0 _) (iC b0 _)
    refine this.mono ?_;rintro ex w' ⟨rfl,rfl⟩;obtain⟨a5,a1,a2,a3,a4⟩:=bP b 108 (0,0) ((bh x.rows).drop (i*2)) (0+(i+1)*2) w.drew arr hh (by rw[e8,hs];omega);obtain⟨f2,b1,b2,b3,b4⟩:=bP b 108 (0,0) (bh [r0]) (0+i*2) _ a5 a1 (by rw[c6,a2,hs];omega);obtain⟨c1,c2,c3,c4,c5⟩:=bE b ((bh x.rows).drop (i*2)) (0+(i+1)*2) w.drew;obtain⟨d1,d2,d3,d4,d5⟩:=bE b (bh [r0]) (0+i*2) (w.drew.setCells b (0+(i+1)*2) ((bh x.rows).drop (i*2)));refine⟨_,some b,rfl,⟨d1.trans c1,d2.trans c2,d3.trans c3,D5 (d4.trans c4).symm,fun k _ hk=>(d5 k (fun e=>hk (by rw[e]))).trans (c5 k (fun e=>hk (by rw[e])))⟩,?_,fun b hb=>.inl hb⟩;refine Fq b1 e7.symm (by rw[b2,a2,hs]) (by omega) O fun k v hk=>?_
    rcases Pb x.rows i r0 (by omega) hk with⟨q1,V⟩ | ⟨q1,V,q3⟩ | ⟨q1,V⟩
    ·rw[b3 k (.inl (by omega)),a3 k (.inl (by omega))];exact hc k v V
    ·have:=b4 _ v q3
     rwa [show 0+i*2+(k - i*2)=k from by omega] at this
    ·rw[b3 k (.inr (by rw[c6];omega))];have:=a4 _ v V
     rwa [show 0+(i+1)*2+(k - (i+1)*2)=k from by omega] at this
   ·obtain rfl:cap=n:=by omega
    have:=H.ins_grow b 0 cap i (i+1) M 0 vc (bh x.rows) (bh [r0]) w rfl W (by omega) a7 rfl e6 b6 (kJ _) (kJ _);refine this.mono ?_;rintro ex w' ⟨rfl,rfl⟩;have g3:=grownCap_ge w (cap+1) cap 108;have d7:=grownCap_le_maxLen w (cap+1) cap 108 (by unfold maxLen;omega);obtain⟨G,hG⟩:∃G,G=grownCap w (cap+1) cap 108:=⟨_,rfl⟩;rw[<- hG] at g3 d7 ⊢;have g2:H.zc.cells.size=2:=rfl;obtain⟨y,a0⟩:∃y:Array Value,y=((bh x.rows).take (i*2)).toArray++Builtin.zeroCells H.zc.cells (cap+1 - i)++Builtin.zeroCells H.zc.cells (G - (cap+1)):=⟨_,rfl⟩;have e0:((bh x.rows).take (i*2)).length=i*2:=by rw[w5,a7];omega
    have b5:y.size=G*2:=by rw[a0];simp only[D2,B8,e0,size_zeroCells,g2];omega
    have h2:∀(k:Nat) v,k<i*2->(bh x.rows)[k]?=some v->y[k]?=some v:=fun k v hk hv=>by rw[a0,J7,v5 (by simp only[B8,e0];exact hk)];simp[u9,hk,hv]
    rw[<- a0];have hW:((w.alloc (.cells y 108)).drew).heap[w.heap.size]?=some (.cells y 108 (0,0)):=by letI:Low:=Dy;exact gH w _
    obtain⟨a5,a1,a2,a3,a4⟩:=bP w.heap.size 108 (0,0) (bh [r0]) (i*2) _ y hW (by rw[c6,b5];omega);obtain⟨f2,b1,b2,b3,b4⟩:=bP w.heap.size 108 (0,0) ((bh x.rows).drop (i*2)) ((i+1)*2) ((((w.alloc (.cells y 108)).drew).setCells w.heap.size (i*2) (bh [r0])).drew) a5 a1 (by rw[e8,a2,b5];omega);obtain⟨c1,c2,c3,c4,c5⟩:=bE w.heap.size (bh [r0]) (i*2) ((w.alloc (.cells y 108)).drew);obtain⟨d1,d2,d3,d4,d5⟩:=bE w.heap.size ((bh x.rows).drop (i*2)) ((i+1)*2) ((((w.alloc (.cells y 108)).drew).setCells w.heap.size (i*2) (bh [r0])).drew);refine⟨_,some w.heap.size,rfl,⟨d1.trans c1,d2.trans c2,d3.trans c3,?_,fun k hk _=>(d5 k (by omega)).trans ((c5 k (by omega)).trans (Below.heap_alloc w _ k hk))⟩,?_,fun b hb=>.inr (by injection hb with hb;omega)⟩
    ·refine m8 ?_ (D5 (d4.trans c4).symm);show w.heap.size<=(w.heap.push _).size;rw[Array.size_push];omega
    ·refine Fq b1 e7.symm (by rw[b2,a2,b5]) (by omega) (by unfold maxLen at d7;omega) fun k v hk=>?_
     rcases Pb x.rows i r0 (by omega) hk with⟨q1,V⟩ | ⟨q1,V,q3⟩ | ⟨q1,V⟩
     ·rw[b3 k (.inl (by omega)),a3 k (.inl (by omega))];exact h2 k v q1 V
     ·rw[b3 k (.inl (by omega))];have:=a4 _ v q3
      rwa [show i*2+(k - i*2)=k from by omega] at this
     ·have:=b4 _ v V
      rwa [show (i+1)*2+(k - (i+1)*2)=k from by omega] at this
set_option maxRecDepth 4096
set_option maxHeartbeats 1000000
abbrev aiR:=find [IU,DZ,acS,abL]
abbrev aht:=[0,1,2,6,7,8,9,16,28,33]
theorem agt(N:Nat)(p q r:b8):bf f8 aiR N aht Tryz.f259 (.one (.c (.own (0,0) true 108))) [⟨sd (.sl 108),p⟩,⟨ri,q⟩,⟨ri,r⟩]=some (bo,
 nd (cI (gd p 0)&&inB (gd q 0).int 0 999) (bif (gd r 0).int==(-1) then bif bsB (gd p 0) (gd q 0).int then nd (leI ((gd p 0).rows.length:Int) 1000000) (nd (leI ((gd p 0).rows.length:Int) 1000000&&ah (bp (gd p 0) (gd q 0).int:Int) (gd p 0).rows.length&&((w64 ((bp (gd p 0) (gd q 0).int:Int)+1))==(bp (gd p 0) (gd q 0).int:Int)+1)) (some (1,[.l (nH (gd p 0).rows (bp (gd p 0) (gd q 0).int:Int).toNat)])))
 else bif (gd r 0).int==(-1) then nd (leI ((gd p 0).rows.length:Int) 1000000) (some (1,[.l (gd p 0).rows]))
 else bif bsB (gd p 0) (gd q 0).int then nd (leI ((gd p 0).rows.length:Int) 1000000) (nd (ah (bp (gd p 0) (gd q 0).int:Int) (gd p 0).rows.length) (some (1,[.l ((gd p 0).rows.set (bp (gd p 0) (gd q 0).int:Int).toNat [gd ((gd p 0).rows.getD (bp (gd p 0) (gd q 0).int:Int).toNat []) 0,gd r 0])])))
 else nd (leI ((gd p 0).rows.length:Int) 1000000) (nd (leI ((gd p 0).rows.length:Int) 1000000&&leI 0 (bp (gd p 0) (gd q 0).int:Int)&&leI (bp (gd p 0) (gd q 0).int:Int) ((gd p 0).rows.length:Int)&&([[gd q 0,gd r 0]].length==1)) (some (1,[.l (eb (gd p 0).rows (bp (gd p 0) (gd q 0).int:Int).toNat ([[gd q 0,gd r 0]].getD 0 []))])))
 else bif (gd r 0).int==(-1) then nd (leI ((gd p 0).rows.length:Int) 1000000) (some (1,[.l (gd p 0).rows]))
 else bif bsB (gd p 0) (gd q 0).int then nd (leI ((gd p 0).rows.length:Int) 1000000) (nd (ah (bp (gd p 0) (gd q 0).int:Int) (gd p 0).rows.length) (some (1,[.l ((gd p 0).rows.set (bp (gd p 0) (gd q 0).int:Int).toNat [gd ((gd p 0).rows.getD (bp (gd p 0) (gd q 0).int:Int).toNat []) 0,gd r 0])])))
 else nd (leI ((gd p 0).rows.length:Int) 1000000) (nd (leI ((gd p 0).rows.length:Int) 1000000&&leI 0 (bp (gd p 0) (gd q 0).int:Int)&&leI (bp (gd p 0) (gd q 0).int:Int) ((gd p 0).rows.length:Int)&&([[gd q 0,gd r 0]].length==1)) (some (1,[.l (eb (gd p 0).rows (bp (gd p 0) (gd q 0).int:Int).toNat ([[gd q 0,gd r 0]].getD 0 []))]))))):=by kernel_rfl
theorem ach{C:Nat->Bool}:∀m k,cnt C k m<=m
 | 0,_=>i8 _
 | m+1,k=>by have:=ach (C:=C) m k;rw[jm];cases C (k+m) <;> simp <;> omega
theorem alD(z:D)(t:Int):bp z t<=z.rows.length:=ach _ _
theorem ahz{z:D}{t:Int}(h:bsB z t=true):bp z t<z.rows.length:=by simp only[bsB,a9,ltI,g5] at h;omega
def Nz(z k v:D):D:=bif bsB z k.int then (bif v.int == -1 then .l (nH z.rows (bp z k.int)) else .l (z.rows.set (bp z k.int) [gd (z.rows.getD (bp z k.int) []) 0,v])) else (bif v.int == -1 then .l z.rows else .l (eb z.rows (bp z k.int) [k,v]))
def afQ:Ent:=(259,e3 (sd (.sl 108)) ri ri fun p q r=>(⟨.one (.c (.own (0,0) true 108)),[Nz (gd p 0) (gd q 0) (gd r 0)]⟩,cI (gd p 0)&&inB (gd q 0).int 0 999))
theorem aiM:ay f8 afQ:=gW fun p q r h=>au (N:=0) (ks:=aht) (al (fC ⟨Qr,fC ⟨Cd,fC ⟨adi,fC ⟨adf,fN⟩⟩⟩⟩)) Tryz.func259 fun hw=>by
 rw[agt];have h:(cI (gd p 0)&&inB (gd q 0).int 0 999)=true:=h;rw[h,aU];simp only[a9] at h;have hz:=tv h.1;have hl:=hz.len;have y:=alD (gd p 0) (gd q 0).int;have h1:leI ((gd p 0).rows.length:Int) 1000000=true:=bi (by omega);have J:leI (bp (gd p 0) (gd q 0).int:Int) ((gd p 0).rows.length:Int)=true:=bi (by omega);have O:w64 ((bp (gd p 0) (gd q 0).int:Int)+1)=(bp (gd p 0) (gd q 0).int:Int)+1:=bD (by omega) (by omega);unfold Nz;simp only[h1,akS,J,O,aU,g8,y7,s9,E6];cases M:bsB (gd p 0) (gd q 0).int
 ·cases (gd r 0).int == -1 <;> rfl
 ·rw[bK (ahz M)];cases (gd r 0).int == -1 <;> rfl
abbrev Cb:=find []
theorem Rr:av f8 Cb:=al (fN)
abbrev Dl:=[0,1,2,3,8,9,10,11,18,31,44,53,3000008]
def oe(N:Nat)(p q r s:b8):b8->Out:=bb f8 Cb N Dl Tryz.f219 (.one (.c (.own (0,0) true 108))) [⟨sd (.sl 108),p⟩,⟨ri,q⟩,⟨ri,r⟩,⟨rb,s⟩] 0
theorem Jd(N:Nat)(p q r s:b8)(J O V W x4 U x6 M:D):(oe N p q r s) [J,O,V,W,x4,U,x6,M] =
 bif ltI M.int (J.rows.length:Int) then bif !x6.bool then nd (ah M.int J.rows.length) (bif leI O.int (gd (J.rows.getD M.int.toNat []) 0).int then nd (bl (U.rows ++ [[O,V]])&&true) ((let y:Out:=nx [J,O,V,W,x4,.l (U.rows ++ [[O,V]]),.b true,M,.b (ltI M.int (J.rows.length:Int)),.b (leI O.int (gd (J.rows.getD M.int.toNat []) 0).int)]
  nd y.isSome (nd (ah (gd y.pay 7).int (gd y.pay 0).rows.length) (bif (gd ((gd y.pay 0).rows.getD (gd y.pay 7).int.toNat []) 0).int != (gd y.pay 1).int then nd (ah (gd y.pay 7).int (gd y.pay 0).rows.length) (nd (bl ((gd y.pay 5).rows ++ [sub ((gd y.pay 0).rows.getD (gd y.pay 7).int.toNat []) 0 2])&&true) (nx [gd y.pay 0,gd y.pay 1,gd y.pay 2,gd y.pay 3,gd y.pay 4,.l ((gd y.pay 5).rows ++ [sub ((gd y.pay 0).rows.getD (gd y.pay 7).int.toNat []) 0 2]),gd y.pay 6,.i (w64 ((gd y.pay 7).int+1))]))
  else nx [gd y.pay 0,gd y.pay 1,gd y.pay 2,gd y.pay 3,gd y.pay 4,gd y.pay 5,gd y.pay 6,.i (w64 ((gd y.pay 7).int+1))]))))
 else nd (ah M.int J.rows.length) (bif (gd (J.rows.getD M.int.toNat []) 0).int != O.int then nd (ah M.int J.rows.length) (nd (bl (U.rows ++ [sub (J.rows.getD M.int.toNat []) 0 2])&&true) (nx [J,O,V,W,x4,.l (U.rows ++ [sub (J.rows.getD M.int.toNat []) 0 2]),x6,.i (w64 (M.int+1))]))
 else nx [J,O,V,W,x4,U,x6,.i (w64 (M.int+1))]))
 else nd (ah M.int J.rows.length) (bif (gd (J.rows.getD M.int.toNat []) 0).int != O.int then nd (ah M.int J.rows.length) (nd (bl (U.rows ++ [sub (J.rows.getD M.int.toNat []) 0 2])&&true) (nx [J,O,V,W,x4,.l (U.rows ++ [sub (J.rows.getD M.int.toNat []) 0 2]),x6,.i (w64 (M.int+1))]))
 else nx [J,O,V,W,x4,U,x6,.i (w64 (M.int+1))])
 else ex 0 [J,O,V,W,x4,U,x6,M]:=by kernel_rfl
theorem Ui(N:Nat)(p q r s:b8):bf f8 Cb N Dl Tryz.f219 (.one (.c (.own (0,0) true 108))) [⟨sd (.sl 108),p⟩,⟨ri,q⟩,⟨ri,r⟩,⟨rb,s⟩]=some (bo,
 (let y:=aX (oe N p q r s) N [gd p 0,gd q 0,gd r 0,gd s 0,.l [],.l [],.b (!(gd s 0).bool),.i 0]
  nd y.isSome (nd (y.code==2) (bif !(gd y.pay 6).bool then nd (bl ((gd y.pay 5).rows ++ [sub y.pay 1 2])&&true) (some (1,[.l ((gd y.pay 5).rows ++ [sub y.pay 1 2])]))
  else some (1,[gd y.pay 5]))))):=by kernel_rfl
def tL(k v:D)(st:List b8 × Bool)(r:b8):List b8 × Bool:=
 (bif (gd r 0).int != k.int then (bif !st.2&&leI k.int (gd r 0).int then st.1 ++ [[k,v]] else st.1) ++ [sub r 0 2] else (bif !st.2&&leI k.int (gd r 0).int then st.1 ++ [[k,v]] else st.1),st.2||leI k.int (gd r 0).int)
def Bw(z k v:D)(keep:Bool)(n:Nat):List b8 × Bool:=(z.rows.take n).foldl (tL k v) ([],!keep)
theorem Rw(z k v:D)(keep:Bool){n:Nat}(h:n<z.rows.length):Bw z k v keep (n+1)=tL k v (Bw z k v keep n) (z.rows.getD n []):=by unfold Bw;rw[H9,List.foldl_append,g9 h,g4,g9 h];rfl
theorem OO(z k v:D)(keep:Bool):∀n,n<=z.rows.length->(Bw z k v keep n).1.length<=2*n
 | 0,_=>by simp[Bw]
 | n+1,h=>by rw[Rw z k v keep (by omega)];have:=OO z k v keep n (by omega);unfold tL;generalize Bw z k v keep n=A at *;cases !A.2&&leI k.int (gd (z.rows.getD n []) 0).int <;> cases (gd (z.rows.getD n []) 0).int != k.int <;> simp <;> omega
def Yn(z k v:D)(keep:Bool):D:=.l (bif !(Bw z k v keep z.rows.length).2 then (Bw z k v keep z.rows.length).1 ++ [[k,v]] else (Bw z k v keep z.rows.length).1)
def MW:Ent:=(219,e4 (sd (.sl 108)) ri ri rb fun p q r s=>(⟨.one (.c (.own (0,0) true 108)),[Yn (gd p 0) (gd q 0) (gd r 0) (gd s 0).bool]⟩,leI ((gd p 0).rows.length:Int) 1000000))
theorem VO:ay f8 MW:=Bc fun p q r s h=>au (N:=(gd p 0).rows.length+1) (ks:=Dl) Rr Tryz.func219 fun hw=>by
 rw[Ui];have h:leI ((gd p 0).rows.length:Int) 1000000=true:=h;simp only[leI,g5] at h;have e:=cJ (L:=oe ((gd p 0).rows.length+1) p q r s) (fun n => [gd p 0,gd q 0,gd r 0,gd s 0,.l [],.l (Bw (gd p 0) (gd q 0) (gd r 0) (gd s 0).bool n).1,.b (Bw (gd p 0) (gd q 0) (gd r 0) (gd s 0).bool n).2,.i (n:Int)]) (gd p 0).rows.length 0 (fun k hk=>?_) ?_ (N:=(gd p 0).rows.length+1) (by omega)
 ·simp only[j9] at e;rw[show (Bw (gd p 0) (gd q 0) (gd r 0) (gd s 0).bool 0)=([],!(gd s 0).bool) from rfl] at e;rw[e];have O:=OO (gd p 0) (gd q 0) (gd r 0) (gd s 0).bool _ (i8 _);simp only[nd,g6,f9,B1,Out.code,Out.pay,z6,aq,ap,Nat.reduceBEq,Nat.reduceAdd,aA,kK,ye,bd,n4,A4,s9];unfold Yn;generalize Bw (gd p 0) (gd q 0) (gd r 0) (gd s 0).bool (gd p 0).rows.length=A at *;have J:bl (A.1 ++ [[gd q 0,gd r 0]])=true:=ci (by simp;omega);cases A.2
  ·change some (bo,bif bl (A.1 ++ [[gd q 0,gd r 0]])&&true then some (1,[D.l (A.1 ++ [[gd q 0,gd r 0]])]) else none)=_;rw[J];rfl
  ·rfl
 ·show oe _ p q r s [_,_,_,_,_,_,_,.i (k:Int)]=_;rw[Jd,Rw _ _ _ _ hk];have O:=OO (gd p 0) (gd q 0) (gd r 0) (gd s 0).bool k (by omega);generalize Bw (gd p 0) (gd q 0) (gd r 0) (gd s 0).bool k=A at *;have M:∀x,bl (A.1 ++ [x])=true:=fun x=>ci (by simp;omega)
  have J:∀x y,bl (A.1 ++ [x] ++ [y])=true:=fun x y=>ci (by simp;omega)
  simp only[aA,kK,bd,di hk,bu hk,aG hk (show (gd p 0).rows.length<=9223372036854775807 from by omega),g8,tL,M,E6,aU];cases A.2 <;> cases leI (gd q 0).int (gd ((gd p 0).rows.getD k []) 0).int <;> cases U:(gd ((gd p 0).rows.getD k []) 0).int != (gd q 0).int <;> simp only[nd,g6,f9,B1,Out.code,Out.pay,z6,aq,ap,Nat.reduceBEq,Nat.reduceAdd,aA,kK,ye,bd,n4,A4,s9,M,J,U,bK hk,g8,E6,E4,A9,y7,J8,N5,M1,G7,aG hk (show (gd p 0).rows.length<=9223372036854775807 from by omega)]
 ·show oe _ p q r s [_,_,_,_,_,_,_,.i ((gd p 0).rows.length:Int)]=_;rw[Jd];simp only[aA,ca]
def pr(r:b8):Int × Int:=((gd r 0).int,(gd r 1).int)
def prs(z:D):List (Int × Int):=z.rows.map pr
def prD(xs:List (Int × Int)):D:=.l (xs.map fun a => [.i a.1,.i a.2])
theorem zO(xs:List (Int × Int)):prs (prD xs)=xs:=by
 unfold prs prD;show ((xs.map _).map pr)=xs;rw[D6];have:(pr ∘ fun a:Int × Int => [D.i a.1,D.i a.2])=id:=by funext a;rfl
 rw[this,List.map_id]
theorem ew(z:D):(prs z).length=z.rows.length:=by simp[prs]
theorem ajW(xs:List (Int × Int)):(prD xs).rows.length=xs.length:=by simp[prD,D.rows]
theorem pg(z:D)(i:Nat)(h:i<z.rows.length):(prs z)[i]'(by rw[ew];exact h)=(bT z i,(gd (z.rows.getD i []) 1).int):=by simp[prs,pr,bT,g4,g9 h]
theorem ahJ(r:b8):pr (sub r 0 2)=pr r:=rfl
def upL(xs:List (Int × Int)):Prop:=xs.Pairwise (fun a b=>a.1<b.1)/\∀a∈xs,0<=a.1/\a.1<=999
theorem jz.upL{z:D}(h:jz z):upL (prs z):=by
 refine⟨y6.2 fun i j hi O M=>?_,fun a U=>?_⟩
 ·have y:i<z.rows.length:=by rwa [ew] at hi
  have J:j<z.rows.length:=by rwa [ew] at O
  rw[pg z i y,pg z j J];exact h.lt i j M J
 ·obtain⟨i,hi,rfl⟩:=I5.1 U;have y:i<z.rows.length:=by rwa [ew] at hi
  rw[pg z i y];exact h.key i y
theorem amc{xs:List (Int × Int)}(h:upL xs):xs.length<=1000:=by
 have hk:∀i (hi:i<xs.length),(i:Int)<=(xs[i]).1:=by
  intro i
  induction i with
  | zero=>intro hi;exact (h.2 _ (v6 hi)).1
  | succ i y =>intro hi;have h1:=y (by omega);have J:=y6.1 h.1 i (i+1) (by omega) hi (by omega);omega
 rcases C4 1000 xs.length with hlt | hge
 ·have h1:=hk 1000 hlt;have J:=(h.2 _ (v6 hlt)).2;omega
 ·exact hge
theorem aeq{z:D}(h:upL (prs z)):jz z:=by
 refine⟨by rw[<- ew];exact amc h,fun k hk=>?_,fun i j J y=>?_⟩
 ·have:=h.2 _ (v6 (show k<(prs z).length from by rw[ew];exact hk));rw[pg z k hk] at this;exact this
 ·have:=y6.1 h.1 i j (by rw[ew];omega) (by rw[ew];exact y) J;rw[pg z i (by omega),pg z j y] at this;exact this
theorem xo{z:D}:cI z=true↔upL (prs z):=⟨fun h=>(tv h).upL,fun h=>SV (aeq h)⟩
def ik(k:Int)(xs:List (Int × Int)):List (Int × Int):=xs.filter fun a=>decide (a.1<k)
def jS(k:Int)(xs:List (Int × Int)):List (Int × Int):=xs.filter fun a=>decide (k<a.1)
def pH(xs:List (Int × Int))(k v:Int)(keep:Bool):List (Int × Int):=ik k xs++(bif keep then[(k,v)] else[])++jS k xs
theorem Lr{xs:List (Int × Int)}(h:upL xs){k:Int}(hk:0<=k/\k<=999)(v:Int)(keep:Bool):upL (pH xs k v keep):=by
 have hl:∀a∈ik k xs,a.1<k:=fun a y=>by simpa using (B7.1 y).2
 have hm:∀a∈jS k xs,k<a.1:=fun a y=>by simpa using (B7.1 y).2
 have O:(ik k xs).Pairwise (fun a b=>a.1<b.1):=h.1.filter _;have M:(jS k xs).Pairwise (fun a b=>a.1<b.1):=h.1.filter _;unfold pH;refine⟨?_,?_⟩
 ·refine G1.2 ⟨G1.2 ⟨O,by cases keep <;> simp,fun a y b J=>?_⟩,M,fun a y b J=>?_⟩
  ·cases keep with
   | true=>simp only[g6,y5] at J;subst J;exact hl a y
   | false=>simp at J
  ·rcases n3.1 y with y | y
   ·have:=hl a y;have:=hm b J;omega
   ·cases keep with
    | true=>simp only[g6,y5] at y;subst y;exact hm b J
    | false=>simp at y
 ·intro a y;rcases n3.1 y with y | y
  ·rcases n3.1 y with y | y
   ·exact h.2 a (B7.1 y).1
   ·cases keep with
    | true=>simp only[g6,y5] at y;subst y;exact hk
    | false=>simp at y
  ·exact h.2 a (B7.1 y).1
theorem Pi{xs:List (Int × Int)}{k:Int}(h:∀a∈xs,k<a.1):jS k xs=xs/\ik k xs = []:=by refine⟨G4.2 fun a y=>by simpa using h a y,E5.2 fun a y=>?_⟩;have:=h a y;simp;omega
theorem Iz(f:b8->Bool)(rows:List b8):∀m,m<=rows.length->cnt (fun k=>f (rows.getD k [])) 0 m=((rows.take m).filter f).length
 | 0,_=>by simp[cnt]
 | m+1,h=>by
  rw[jm,Iz f rows m (by omega),H9,g9 (by omega),E7,i6,m0,g4,g9 (by omega)]
  congr 1
  simp only[z6,Option.toList_some,C6,O4];cases f rows[m] <;> rfl
theorem MS{z:D}(t:Int):bp z t=(ik t (prs z)).length:=by unfold bp ik prs;rw[K0,r9];have:=Iz (fun r=>decide ((gd r 0).int<t)) z.rows z.rows.length (i8 _);rw[F1] at this;exact this
theorem Wd{xs:List (Int × Int)}(h:xs.Pairwise (fun a b=>a.1<b.1))(k:Int):xs=ik k xs++(xs.filter fun a=>a.1==k)++jS k xs:=by
 induction xs with
 | nil=>rfl
 | cons a xs U =>
  rw[H5] at h;have:=U h.2;unfold ik jS at *;rw[C6,C6,C6];rcases I6 a.1 k with hlt | he | hgt
  ·rw[m6 (by simpa using hlt),j7 (by simp;omega),j7 (by simp;omega)];rw[J2,J2,<- this]
  ·rw[j7 (by simp;omega),m6 (by simpa using he),j7 (by simp;omega)];have y:∀b∈xs,k<b.1:=fun b J=>by have:=h.1 b J;omega
   obtain⟨M,O⟩:=Pi y;unfold jS at M;unfold ik at O;rw[M,O,show (xs.filter fun a=>a.1==k) = [] from E5.2 fun b J=>by have:=y b J;simp;omega];rfl
  ·rw[j7 (by simp;omega),j7 (by simp;omega),m6 (by simpa using hgt)];have y:∀b∈xs,k<b.1:=fun b J=>by have:=h.1 b J;omega
   obtain⟨M,O⟩:=Pi y;unfold jS at M;unfold ik at O;rw[M,O,show (xs.filter fun a=>a.1==k) = [] from E5.2 fun b J=>by have:=y b J;simp;omega];rfl
theorem vL{xs:List (Int × Int)}(h:upL xs)(k:Int):xs=ik k xs++(xs.filter fun a=>a.1==k)++jS k xs:=Wd h.1 k
theorem alj{z:D}(h:jz z){t:Int}(M:bsB z t=true):∃v,((prs z).filter fun a=>a.1==t) = [(t,v)]:=by
 have U:=ahz M;have hk:bT z (bp z t)=t:=by simp only[bsB,a9,u7] at M;exact M.2
 have W:=h.upL;refine⟨(gd (z.rows.getD (bp z t) []) 1).int,?_⟩;have y:(t,(gd (z.rows.getD (bp z t) []) 1).int)∈(prs z).filter fun a=>a.1==t:=by refine B7.2 ⟨?_,by simp⟩;have:=pg z _ U;rw[hk] at this;rw[<- this];exact v6 _
 have O:((prs z).filter fun a=>a.1==t).Pairwise (fun a b=>a.1<b.1):=W.1.filter _;have J:∀a∈(prs z).filter fun a=>a.1==t,a.1=t:=fun a V=>by simpa using (B7.1 V).2
 generalize ((prs z).filter fun a=>a.1==t)=l at *
 match l with
 | []=>simp at y
 | [a]=>simp only[y5] at y;rw[y]
 | a::b::l =>rw[H5] at O;have h1:=O.1 b (by simp);have Y:=J a (by simp);have Z:=J b (by simp);omega
theorem amK{z:D}(h:jz z){t:Int}(M:bsB z t=false):((prs z).filter fun a=>a.1==t) = []:=by
 refine E5.2 fun a O y=>?_
 have y:a.1=t:=by simpa using y
 obtain⟨i,hi,rfl⟩:=I5.1 O;have J:i<z.rows.length:=by rwa [ew] at hi
 rw[pg z i J] at y;have y:bT z i=t:=y;have hl:bp z t=i:=sp (by omega) (fun k hk=>by have:=h.lt k i hk J;omega) (fun k h1 U=>by
  rcases C4 i k with hik | hik
  ·have:=h.lt i k hik U;omega
  ·obtain rfl:k=i:=by omega
   omega)
 unfold bsB at M;rw[hl,gy J,y,s9] at M;cases M
theorem ais{z:D}(h:jz z)(t:Int):(prs z).take (bp z t)=ik t (prs z):=by have:=vL h.upL t;rw[MS];have e:=congrArg (List.take (ik t (prs z)).length) this;rw[e,C0];exact List.take_left' rfl
theorem akf{z:D}(h:jz z){t:Int}(y:bsB z t=false):(prs z).drop (bp z t)=jS t (prs z):=by have:=vL h.upL t;rw[amK h y,D9] at this;rw[MS];have e:=congrArg (List.drop (ik t (prs z)).length) this;rw[e];exact List.drop_left' rfl
theorem ahs{z:D}(h:jz z){t:Int}(y:bsB z t=true):(prs z).drop (bp z t+1)=jS t (prs z):=by have:=vL h.upL t;obtain⟨v,hv⟩:=alj h y;rw[hv] at this;rw[MS];have e:=congrArg (List.drop ((ik t (prs z)).length+1)) this;rw[e];exact List.drop_left' (by simp)
theorem ajx{z:D}(h:jz z)(k v:D):prs (Nz z k v)=pH (prs z) k.int v.int (!(v.int == -1)):=by
 have J:=ais h k.int;unfold Nz pH;have hm:∀rows,prs (.l rows)=rows.map pr:=fun _=>rfl
 cases M:bsB z k.int with
 | true =>
  have y:=ahs h M;have U:=ahz M;cases hv:v.int == -1 with
  | true =>simp only[g6,n4,f9,D9];rw[hm,nH,y8,N6,N7];change (prs z).take _++(prs z).drop _=_;rw[J,y]
  | false =>
   simp only[g6,A4,f9];have O:prs (.l (z.rows.set (bp z k.int) [gd (z.rows.getD (bp z k.int) []) 0,v]))=(prs z).take (bp z k.int) ++ [(k.int,v.int)]++(prs z).drop (bp z k.int+1):=by
    rw[hm,List.map_set,List.set_eq_take_append_cons_drop,m6 (by rw[r9];exact U)];have hk:bT z (bp z k.int)=k.int:=by simp only[bsB,a9,u7] at M;exact M.2
    have:pr [gd (z.rows.getD (bp z k.int) []) 0,v]=(k.int,v.int):=by show ((gd (z.rows.getD (bp z k.int) []) 0).int,v.int)=_;rw[show (gd (z.rows.getD (bp z k.int) []) 0).int=k.int from hk]
    rw[this];simp[prs]
   rw[O,J,y]
 | false =>
  have y:=akf h M;cases hv:v.int == -1 with
  | true =>
   simp only[g6,n4,f9,D9];change prs z=_
   conv=>lhs;rw[<- H3 (bp z k.int) (prs z)]
   rw[J,y]
  | false =>simp only[g6,A4,f9];rw[hm,eb,y8,w8,N6,N7];change (prs z).take _++(pr [k,v]::(prs z).drop _)=_;rw[J,y,C0];rfl
theorem TT(k v:D):∀(rs:List b8) (y:List b8),rs.foldl (tL k v) (y,true)=(y++(rs.filter fun r=>(gd r 0).int != k.int).map (fun r=>sub r 0 2),true)
 | [],y=>by simp
 | r::rs,y=>by rw[List.foldl_cons];have:tL k v (y,true) r=(bif (gd r 0).int != k.int then y ++ [sub r 0 2] else y,true):=rfl;rw[this,TT k v rs,C6];cases (gd r 0).int != k.int <;> simp
def fin(k v:D)(R:List b8 × Bool):List b8:=bif !R.2 then R.1 ++ [[k,v]] else R.1
theorem Zh(k:Int)(rs:List b8):((rs.filter fun r=>(gd r 0).int != k).map fun r=>sub r 0 2).map pr=(rs.map pr).filter fun a=>a.1 != k:=by rw[D6,K0];rfl
theorem agb{xs:List (Int × Int)}(h:upL xs)(k:Int):(xs.filter fun a=>a.1 != k)=ik k xs++jS k xs:=by
 have O:=vL h k
 conv=>lhs;rw[O]
 rw[E7,E7];have h1:(ik k xs).filter (fun a=>a.1 != k)=ik k xs:=G4.2 fun a y=>by
  have:a.1<k:=by simpa using (B7.1 y).2
  simp;omega
 have J:(jS k xs).filter (fun a=>a.1 != k)=jS k xs:=G4.2 fun a y=>by
  have:k<a.1:=by simpa using (B7.1 y).2
  simp;omega
 have M:((xs.filter fun a=>a.1==k).filter fun a=>a.1 != k) = []:=E5.2 fun a y=>by
  have:a.1=k:=by simpa using (B7.1 y).2
  simp;omega
 rw[h1,J,M,D9]
theorem ahD(k v:D):∀(rs:List b8) (y:List b8),(rs.map pr).Pairwise (fun a b=>a.1<b.1)->(fin k v (rs.foldl (tL k v) (y,false))).map pr=y.map pr++pH (rs.map pr) k.int v.int true
 | [],y,_=>by simp[fin,pH,ik,jS,pr,aq,ap]
 | r::rs,y,h=>by
  rw[List.foldl_cons];rw[w8,H5] at h;have O:∀b∈rs.map pr,(gd r 0).int<b.1:=h.1;rcases Int.lt_or_le (gd r 0).int k.int with hlt | hge
  ·have e1:tL k v (y,false) r=(y ++ [sub r 0 2],false):=by unfold tL;simp only[FX hlt,E4,f9,N5];rw[show ((gd r 0).int != k.int)=true from by simp;omega];rfl
   rw[e1,ahD k v rs _ h.2];unfold pH ik jS;rw[w8,C6,C6,m6 (show decide ((pr r).1<k.int)=true from B3 hlt),j7 (show ¬decide (k.int<(pr r).1)=true from fun h=>by have:=i7 h;have:k.int<(gd r 0).int:=this;omega)];simp only[y8,w8,I2,ahJ,C0,J2,F0,g6]
  ·have J:∀b∈rs.map pr,k.int<b.1:=fun b Y=>by have:=O b Y;omega
   obtain⟨U,V⟩:=Pi J;unfold ik at V;unfold jS at U;have M:((rs.map pr).filter fun a=>a.1 != k.int)=rs.map pr:=G4.2 fun a W=>by have:=J a W;simp;omega
   unfold pH ik jS;rw[w8,C6,C6,U,V,j7 (show ¬decide ((pr r).1<k.int)=true from fun h=>by have:=i7 h;have:(gd r 0).int<k.int:=this;omega)];rcases Int.lt_or_eq_of_le hge with hlt | he
   ·have e1:tL k v (y,false) r=(y ++ [[k,v]] ++ [sub r 0 2],true):=by unfold tL;simp only[bi hge,A4,E6,g6,J8];rw[show ((gd r 0).int != k.int)=true from by simp;omega];rfl
    rw[e1,TT,m6 (show decide (k.int<(pr r).1)=true from B3 hlt)];show (y ++ [[k,v]] ++ [sub r 0 2]++_).map pr=_;rw[y8,Zh,M];simp only[y8,w8,I2,ahJ,C0,J2,F0,g6];rfl
   ·have e1:tL k v (y,false) r=(y ++ [[k,v]],true):=by unfold tL;simp only[bi hge,A4,E6,g6,J8];rw[show ((gd r 0).int != k.int)=false from by simp;omega];rfl
    rw[e1,TT,j7 (show ¬decide (k.int<(pr r).1)=true from fun h=>by have:=i7 h;have:k.int<(gd r 0).int:=this;omega)];show (y ++ [[k,v]]++_).map pr=_;rw[y8,Zh,M];simp only[y8,w8,I2,C0,J2,F0,g6];rfl
theorem alw{z:D}(h:jz z)(k v:D)(keep:Bool):prs (Yn z k v keep)=pH (prs z) k.int v.int keep:=by
 have y:=h.upL;unfold Yn Bw;rw[F1];cases keep with
 | true=>exact ahD k v z.rows [] y.1
 | false =>rw[show (!false)=true from rfl,TT];show ([]++_:List b8).map pr=_;rw[F0,Zh];change (prs z).filter _=_;rw[agb y];simp[pH]
theorem VX{P:Program}{f:FuncId}{args:List T}{e:TypeId}{y O:D}(U:br P e=some eX)(hl:prs y=prs O)(h:aJ P f args ⟨.one (.c (.own (0,0) true e)),[y]⟩):aJ P f args ⟨.one (.c (.own (0,0) true e)),[O]⟩:=by
 have h:=h.n rfl;refine aJ.of rfl ⟨h.1,fun w prot vs ha hf=>(h.2 w prot vs ha hf).mono ?_⟩;rintro ex w' ⟨v,g',rfl,W⟩;have J:y.rows.length=O.rows.length:=by rw[<- ew,<- ew,hl]
 refine⟨v,g',rfl,W.below,?_,W.prot,W.fresh⟩;obtain⟨row,V,Y⟩:=W.val;rw[U] at V;injection V with V;subst V
 refine⟨eX,U,?_⟩;have Y:dX P w' g' w.heap.size (0,0) true e eX y.rows v:=Y;show dX P w' g' w.heap.size (0,0) true e eX O.rows v;rcases Y with⟨h0,h1,Z⟩ | ⟨cap,arr,E,h1,Z,h3,h4,h5,h6,h7,h8,h9,h10,h11⟩
 ·refine .inl ⟨v7 (by rw[<- J,h0];rfl),h1,Z⟩
 ·refine .inr ⟨cap,arr,E,by rw[<- J];exact h1,by rw[<- J];exact Z,h3,h4,h5,h6,h7,by rw[<- J];exact h8,h9,h10,fun i j s hi M=>?_⟩;rw[<- J] at hi;obtain⟨u,k1,k2⟩:=h11 i j s hi M;refine⟨u,k1,?_⟩;have he:pr (y.rows.getD i [])=pr (O.rows.getD i []):=by
   have h1:(prs y)[i]?=(prs O)[i]?:=by rw[hl]
   unfold prs at h1;rw[w9,w9,g9 hi,g9 (by omega)] at h1;rw[g4,g4,g9 hi,g9 (by omega)];simpa using h1
  unfold pr at he;injection he with e0 e1
  match j,M with
  | 0,M =>
   injection M with M
   subst M;have:=vl (k:=.i64) k2;rw[this,e0];exact .int .i64 _
  | 1,M =>
   injection M with M
   subst M;have:=vl (k:=.i64) k2;rw[this,e1];exact .int .i64 _
def UN(z:D)(k v:Int):D:=prD (pH (prs z) k v (leI 0 v))
def acM:Ent:=(259,e3 (sd (.sl 108)) ri ri fun p q r=>(⟨.one (.c (.own (0,0) true 108)),[UN (gd p 0) (gd q 0).int (gd r 0).int]⟩,cI (gd p 0)&&inB (gd q 0).int 0 999&&leI (-1) (gd r 0).int))
theorem afb:ay f8 acM:=gW fun p q r h=>by
 have h:(cI (gd p 0)&&inB (gd q 0).int 0 999&&leI (-1) (gd r 0).int)=true:=h;rw[a9] at h;obtain⟨h1,y⟩:=h;simp only[leI,g5] at y;refine VX kc ?_ (aiM [⟨sd (.sl 108),p⟩,⟨ri,q⟩,⟨ri,r⟩] ⟨.one (.c (.own (0,0) true 108)),[Nz (gd p 0) (gd q 0) (gd r 0)]⟩ ?_)
 ·rw[a9] at h1;rw[ajx (tv h1.1),UN,zO]
  congr 1
  rw[y0];simp[leI];omega
 ·simp only[afQ,e3,s9,u5,g6,h1]
def xc:Ent:=(219,e4 (sd (.sl 108)) ri ri rb fun p q r s=>(⟨.one (.c (.own (0,0) true 108)),[prD (pH (prs (gd p 0)) (gd q 0).int (gd r 0).int (gd s 0).bool)]⟩,cI (gd p 0)))
theorem Ao:ay f8 xc:=Bc fun p q r s h=>by
 have h:cI (gd p 0)=true:=h;have hz:=tv h;have hl:=hz.len;refine VX kc ?_ (VO [⟨sd (.sl 108),p⟩,⟨ri,q⟩,⟨ri,r⟩,⟨rb,s⟩] ⟨.one (.c (.own (0,0) true 108)),[Yn (gd p 0) (gd q 0) (gd r 0) (gd s 0).bool]⟩ ?_)
 ·rw[alw hz,zO]
 ·have:leI ((gd p 0).rows.length:Int) 1000000=true:=bi (by omega);simp only[MW,e4,s9,u5,g6,this]
theorem akq{z:D}(h:cI z=true){k:Int}(hk:inB k 0 999=true)(v:Int):cI (UN z k v)=true:=by simp only[inB,a9,g5] at hk;rw[xo,UN,zO];exact Lr (xo.1 h) hk v _
abbrev xh:=find [qW,oC,Co]
abbrev xE:=[0,1,4,5,7,15,16,17,18,19,31]
def mu(N:Nat)(p q:b8):b8->Out:=bb f8 xh N xE Tryz.f115 ri [⟨sd (.sl 108),p⟩,⟨sd (.sl 70),q⟩] 0
theorem EV(N:Nat)(p q:b8)(M O V U x4 J x6 y:D):(mu N p q) [M,O,V,U,x4,J,x6,y] =
 bif ltI y.int x6.int then nd (ah y.int J.rows.length) (bif (gd (J.rows.getD y.int.toNat []) 1).int != (-1) then nd (aN M&&inB (gd (J.rows.getD y.int.toNat []) 0).int 0 999) (bif ltI (ux M (gd (J.rows.getD y.int.toNat []) 0).int).int 0 then nx [M,O,V,U,.i (w64 (x4.int+1)),J,x6,.i (w64 (y.int+1))]
 else nx [M,O,V,U,x4,J,x6,.i (w64 (y.int+1))])
 else nx [M,O,V,U,x4,J,x6,.i (w64 (y.int+1))])
 else ex 0 [M,O,V,U,x4,J,x6,y]:=by kernel_rfl
theorem Qw(N:Nat)(p q:b8):bf f8 xh N xE Tryz.f115 ri [⟨sd (.sl 108),p⟩,⟨sd (.sl 70),q⟩]=some (bo,
 bif !(aN (gd p 0)) then oi (-1)
 else bif !(aL (gd q 0)) then oi (-1)
 else (let y:=aX (mu N p q) N [gd p 0,gd q 0,.i 0,.b (!(aL (gd q 0))),.i 0,gd q 0,.i ((gd q 0).rows.length:Int),.i 0]
  nd y.isSome (nd (y.code==2) (some (1,[gd y.pay 4]))))):=by kernel_rfl
def my(z w:D)(k:Nat):Bool:=leI 0 (gd (w.rows.getD k []) 1).int&&ltI (ux z (gd (w.rows.getD k []) 0).int).int 0
def bk(z w:D):Int:=bif aN z then bif aL w then (cnt (my z w) 0 w.rows.length:Int) else -1 else -1
theorem ahr{w:D}(h:aL w=true){k:Nat}(hk:k<w.rows.length):w.rows.length<=60/\inB (gd (w.rows.getD k []) 0).int 0 999=true/\((gd (w.rows.getD k []) 1).int != (-1))=leI 0 (gd (w.rows.getD k []) 1).int:=by simp only[aL,a9,i9,m7,g5] at h;obtain⟨hl,h⟩:=h;have:=h k hk;simp only[lW,a9] at this;refine⟨by omega,this.1,?_⟩;have y:=this.2.1;simp only[inB,a9,g5] at y;rw[y0];simp only[I8,ne_eq,leI,g5];omega
theorem vK{w:D}(h:aL w=true):w.rows.length<=60:=by simp only[aL,a9,g5] at h;omega
theorem WF(z w:D)(k:Nat)(h:k<1000):(cnt (my z w) 0 (k+1):Int)=bif my z w k then w64 ((cnt (my z w) 0 k:Int)+1) else (cnt (my z w) 0 k:Int):=by
 have:=aaO (my z w) k 0;rw[jm,m0];cases my z w k
 ·rfl
 ·rw[g6,g6,bD (by omega) (by omega)];omega
def yf:Ent:=(115,e2 (sd (.sl 108)) (sd (.sl 70)) fun p q=>(⟨ri,[.i (bk (gd p 0) (gd q 0))]⟩,true))
theorem Bm:ay f8 yf:=bm fun p q h=>au (N:=61) (ks:=xE) (al (fC ⟨pM,fC ⟨nu,fC ⟨Fy,fN⟩⟩⟩)) Tryz.func115 fun hw=>by
 rw[Qw];unfold bk;cases hz:aN (gd p 0)
 ·rfl
 cases hw:aL (gd q 0)
 ·rfl
 have M:=vK hw;simp only[n4,f9,g6];have e:=cJ (L:=mu 61 p q) (fun k => [gd p 0,gd q 0,.i 0,.b false,.i (cnt (my (gd p 0) (gd q 0)) 0 k:Int),gd q 0,.i ((gd q 0).rows.length:Int),.i (k:Int)]) (gd q 0).rows.length 0 (fun k hk=>?_) ?_ (N:=61) (by omega)
 ·simp only[j9,VV] at e;rw[e];rfl
 ·show mu _ p q [_,_,_,_,_,_,_,.i (k:Int)]=_;rw[EV];obtain⟨_,y,J⟩:=ahr hw hk;simp only[aA,di hk,bu hk,aG hk (show (gd q 0).rows.length<=9223372036854775807 from by omega),g8];rw[hz,y,J,WF _ _ _ (show k<1000 from by omega)];unfold my;cases leI 0 (gd ((gd q 0).rows.getD k []) 1).int <;> cases ltI (ux (gd p 0) (gd ((gd q 0).rows.getD k []) 0).int).int 0 <;> rfl
 ·show mu _ p q [_,_,_,_,_,_,.i ((gd q 0).rows.length:Int),.i ((gd q 0).rows.length:Int)]=_;rw[EV];simp only[aA,ca]
abbrev zj:=find [kH,nX,HL]
abbrev yt:=[0,1,4,5,6,14,18,36]
def lL(N:Nat)(p q:b8):b8->Out:=bb f8 zj N yt Tryz.f103 ri [⟨sd (.sl 108),p⟩,⟨sd (.sl 70),q⟩] 0
theorem FC(N:Nat)(p q:b8)(M y U O x4 J:D):(lL N p q) [M,y,U,O,x4,J] =
 bif ltI J.int (y.rows.length:Int) then nd (ah J.int y.rows.length) (bif leI 0 (gd (y.rows.getD J.int.toNat []) 1).int then nd (ah J.int y.rows.length) (nd (aN M) (bif ltI (ux M (gd (y.rows.getD J.int.toNat []) 0).int).int 0 then nx [M,y,U,O,.i (w64 (x4.int+1)),.i (w64 (J.int+1))]
 else nx [M,y,U,O,x4,.i (w64 (J.int+1))]))
 else nx [M,y,U,O,x4,.i (w64 (J.int+1))])
 else ex 0 [M,y,U,O,x4,J]:=by kernel_rfl
theorem QG(N:Nat)(p q:b8):bf f8 zj N yt Tryz.f103 ri [⟨sd (.sl 108),p⟩,⟨sd (.sl 70),q⟩]=some (bo,
 bif !(aN (gd p 0)) then oi (-1)
 else bif !(aL (gd q 0)) then oi (-1)
 else (let y:=aX (lL N p q) N [gd p 0,gd q 0,.i 0,.b (!(aL (gd q 0))),.i 0,.i 0]
  nd y.isSome (nd (y.code==2) (some (1,[gd y.pay 4]))))):=by kernel_rfl
def xq:Ent:=(103,e2 (sd (.sl 108)) (sd (.sl 70)) fun p q=>(⟨ri,[.i (bk (gd p 0) (gd q 0))]⟩,true))
theorem AS:ay f8 xq:=bm fun p q h=>au (N:=61) (ks:=yt) (al (fC ⟨jC,fC ⟨nL,fC ⟨Kc,fN⟩⟩⟩)) Tryz.func103 fun hw=>by
 rw[QG];unfold bk;cases hz:aN (gd p 0)
 ·rfl
 cases hw:aL (gd q 0)
 ·rfl
 have y:=vK hw;simp only[n4,f9,g6];have e:=cJ (L:=lL 61 p q) (fun k => [gd p 0,gd q 0,.i 0,.b false,.i (cnt (my (gd p 0) (gd q 0)) 0 k:Int),.i (k:Int)]) (gd q 0).rows.length 0 (fun k hk=>?_) ?_ (N:=61) (by omega)
 ·simp only[j9,VV] at e;rw[e];rfl
 ·show lL _ p q [_,_,_,_,_,.i (k:Int)]=_;rw[FC];simp only[aA,di hk,bu hk,aG hk (show (gd q 0).rows.length<=9223372036854775807 from by omega),g8];rw[hz,aU,WF _ _ _ (show k<1000 from by omega)];unfold my;cases leI 0 (gd ((gd q 0).rows.getD k []) 1).int <;> cases ltI (ux (gd p 0) (gd ((gd q 0).rows.getD k []) 0).int).int 0 <;> rfl
 ·show lL _ p q [_,_,_,_,_,.i ((gd q 0).rows.length:Int)]=_;rw[FC];simp only[aA,ca]
abbrev TL:=find [yf]
abbrev UF:=[0,1,2,3,5,10,11,12,13]
def xH(N:Nat)(p:b8):b8->Out:=bb f8 TL N UF Tryz.f114 ri [⟨ag aR,p⟩] 0
theorem Xx(N:Nat)(p:b8)(x0 x1 x2 x3 x4 x5 x6 x7 x8 x9 a1 W J O y Z a3 a4 M V a2 a0 Y U:D):(xH N p) [x0,x1,x2,x3,x4,x5,x6,x7,x8,x9,a1,W,J,O,y,Z,a3,a4,M,V,a2,a0,Y,U] =
 bif ltI y.int O.int then nd (ah y.int J.rows.length) (nx [x0,x1,x2,x3,x4,x5,x6,x7,x8,x9,a1,.i (w64 (W.int+(bk M (gd (J.rows.getD y.int.toNat []) 1)))),J,O,.i (w64 (y.int+1)),Z,a3,a4,M,V,a2,a0,Y,U])
 else ex 0 [x0,x1,x2,x3,x4,x5,x6,x7,x8,x9,a1,W,J,O,y,Z,a3,a4,M,V,a2,a0,Y,U]:=by kernel_rfl
theorem aeH(N:Nat)(p:b8):bf f8 TL N UF Tryz.f114 ri [⟨ag aR,p⟩]=some (bo,
 (let y:=aX (xH N p) N [gd p 0,gd p 1,gd p 2,gd p 3,gd p 4,gd p 5,gd p 6,gd p 7,gd p 8,.i 0,.i 0,.i ((gd p 3).rows.length:Int),gd p 5,.i ((gd p 5).rows.length:Int),.i 0,gd p 0,gd p 1,gd p 2,gd p 3,gd p 4,gd p 5,gd p 6,gd p 7,gd p 8]
  nd y.isSome (nd (y.code==2) (some (1,[gd y.pay 11]))))):=by kernel_rfl
def eI(c y:D):Nat->Int
 | 0=>0
 | k+1=>eI c y k+bk c (gd (y.rows.getD k []) 1)
def iQ(p:b8):Int:=((gd p 3).rows.length:Int)+eI (gd p 3) (gd p 5) (gd p 5).rows.length
theorem rY(c w:D) : -1<=bk c w/\bk c w<=60:=by
 unfold bk;cases aN c
 ·simp only[f9];omega
 cases h:aL w
 ·simp only[g6,f9];omega
 have h1:=vK h;have y:=aaO (my c w) w.rows.length 0;simp only[g6];omega
theorem qc(c y:D):∀k:Nat,-(k:Int)<=eI c y k/\eI c y k<=60*(k:Int)
 | 0=>⟨by simp only[eI];omega,by simp only[eI];omega⟩
 | k+1=>by have h1:=qc c y k;have J:=rY c (gd (y.rows.getD k []) 1);simp only[eI];omega
def VK:Ent:=(114,e1 (ag aR) fun p=>(⟨ri,[.i (iQ p)]⟩,leI ((gd p 3).rows.length:Int) 1000000000&&leI ((gd p 5).rows.length:Int) 1000000000))
theorem SN:ay f8 VK:=cK fun p h=>au (N:=(gd p 5).rows.length+1) (ks:=UF) (al (fC ⟨Bm,fN⟩)) Tryz.func114 fun hw=>by
 rw[aeH];have h:(leI ((gd p 3).rows.length:Int) 1000000000&&leI ((gd p 5).rows.length:Int) 1000000000)=true:=h;simp only[a9,leI,g5] at h;have e:=cJ (L:=xH ((gd p 5).rows.length+1) p) (fun k => [gd p 0,gd p 1,gd p 2,gd p 3,gd p 4,gd p 5,gd p 6,gd p 7,gd p 8,.i 0,.i 0,.i (((gd p 3).rows.length:Int)+eI (gd p 3) (gd p 5) k),gd p 5,.i ((gd p 5).rows.length:Int),.i (k:Int),gd p 0,gd p 1,gd p 2,gd p 3,gd p 4,gd p 5,gd p 6,gd p 7,gd p 8]) (gd p 5).rows.length 0 (fun k hk=>?_) ?_ (N:=(gd p 5).rows.length+1) (by omega)
 ·simp only[j9,eI,Int.add_zero] at e;rw[e];rfl
 ·show xH _ p [_,_,_,_,_,_,_,_,_,_,_,_,_,_,.i (k:Int),_,_,_,_,_,_,_,_,_]=_;rw[Xx];have h1:=qc (gd p 3) (gd p 5) k;have y:=rY (gd p 3) (gd ((gd p 5).rows.getD k []) 1);simp only[aA,di hk,bu hk,aG hk (show (gd p 5).rows.length<=9223372036854775807 from by omega),g8];rw[bD (by omega) (by omega),Int.add_assoc];rfl
 ·show xH _ p [_,_,_,_,_,_,_,_,_,_,_,_,_,.i ((gd p 5).rows.length:Int),.i ((gd p 5).rows.length:Int),_,_,_,_,_,_,_,_,_]=_;rw[Xx];simp only[aA,ca]
abbrev Hq:=find [xq]
abbrev Hk:=[0,1,2,3,4,9]
def rt(N:Nat)(p:b8):b8->Out:=bb f8 Hq N Hk Tryz.f102 ri [⟨ag aR,p⟩] 0
theorem MA(N:Nat)(p:b8)(x0 x1 x2 x3 x4 x5 x6 x7 x8 x9 Z U y Y a1 W M a2 J O a0 V:D):(rt N p) [x0,x1,x2,x3,x4,x5,x6,x7,x8,x9,Z,U,y,Y,a1,W,M,a2,J,O,a0,V] =
 bif ltI y.int (J.rows.length:Int) then nd (ah y.int J.rows.length) (nx [x0,x1,x2,x3,x4,x5,x6,x7,x8,x9,Z,.i (w64 (U.int+(bk M (gd (J.rows.getD y.int.toNat []) 1)))),.i (w64 (y.int+1)),Y,a1,W,M,a2,J,O,a0,V])
 else ex 0 [x0,x1,x2,x3,x4,x5,x6,x7,x8,x9,Z,U,y,Y,a1,W,M,a2,J,O,a0,V]:=by kernel_rfl
theorem XT(N:Nat)(p:b8):bf f8 Hq N Hk Tryz.f102 ri [⟨ag aR,p⟩]=some (bo,
 (let y:=aX (rt N p) N [gd p 0,gd p 1,gd p 2,gd p 3,gd p 4,gd p 5,gd p 6,gd p 7,gd p 8,.i 0,.i 0,.i 0,.i 0,gd p 0,gd p 1,gd p 2,gd p 3,gd p 4,gd p 5,gd p 6,gd p 7,gd p 8]
  nd y.isSome (nd (y.code==2) (some (1,[gd y.pay 11]))))):=by kernel_rfl
def zL:Ent:=(102,e1 (ag aR) fun p=>(⟨ri,[.i (eI (gd p 3) (gd p 5) (gd p 5).rows.length)]⟩,leI ((gd p 5).rows.length:Int) 1000000000))
theorem yk:ay f8 zL:=cK fun p h=>au (N:=(gd p 5).rows.length+1) (ks:=Hk) (al (fC ⟨AS,fN⟩)) Tryz.func102 fun hw=>by
 rw[XT];have h:leI ((gd p 5).rows.length:Int) 1000000000=true:=h;simp only[leI,g5] at h;have e:=cJ (L:=rt ((gd p 5).rows.length+1) p) (fun k => [gd p 0,gd p 1,gd p 2,gd p 3,gd p 4,gd p 5,gd p 6,gd p 7,gd p 8,.i 0,.i 0,.i (eI (gd p 3) (gd p 5) k),.i (k:Int),gd p 0,gd p 1,gd p 2,gd p 3,gd p 4,gd p 5,gd p 6,gd p 7,gd p 8]) (gd p 5).rows.length 0 (fun k hk=>?_) ?_ (N:=(gd p 5).rows.length+1) (by omega)
 ·simp only[j9,eI] at e;rw[e];rfl
 ·show rt _ p [_,_,_,_,_,_,_,_,_,_,_,_,.i (k:Int),_,_,_,_,_,_,_,_,_]=_;rw[MA];have h1:=qc (gd p 3) (gd p 5) k;have y:=rY (gd p 3) (gd ((gd p 5).rows.getD k []) 1);simp only[aA,di hk,bu hk,aG hk (show (gd p 5).rows.length<=9223372036854775807 from by omega),g8];rw[bD (by omega) (by omega)];rfl
 ·show rt _ p [_,_,_,_,_,_,_,_,_,_,_,_,.i ((gd p 5).rows.length:Int),_,_,_,_,_,_,_,_,_]=_;rw[MA];simp only[aA,ca]
abbrev Ej:=find [qj]
abbrev Fo:=[0,1,2,3]
theorem PI(N:Nat)(p q:b8):bf f8 Ej N Fo Tryz.f155 rb [⟨ag aI,p⟩,⟨.one (.c (.cptr [si,.sl 41,.sl 41,.sl 108,.sl 93,.sl 75,.sl 3,.sl 3,si] 0)),q⟩]=some (bo,
 ob (!(ge (gd ((gd q 0).rows.getD 0 []) 1) (sub p 0 2)))):=by kernel_rfl
def pD(p q:b8):Bool:=
 !(ge (gd ((gd q 0).rows.getD 0 []) 1) (sub p 0 2))
def vZ:Ent:=(155,e2 (ag aI) (.one (.c (.cptr [si,.sl 41,.sl 41,.sl 108,.sl 93,.sl 75,.sl 3,.sl 3,si] 0))) fun p q=>(⟨rb,[.b (pD p [gd q 0])]⟩,true))
theorem zu:ay f8 vZ:=bm fun p q h=>au (N:=0) (ks:=Fo) (al (fC ⟨pQ,fN⟩)) Tryz.func155 fun hw=>by
 rw[PI]
 try simp only[er,ez,eo]
 rfl
abbrev El:=find [NC,qj]
abbrev Gf:=[0,1,2,3]
theorem PC(N:Nat)(p q:b8):bf f8 El N Gf Tryz.f156 rb [⟨ag Uc,p⟩,⟨.one (.c (.cptr [si,.sl 41,.sl 41,.sl 108,.sl 93,.sl 75,.sl 3,.sl 3,si] 0)),q⟩]=some (bo,
 ob (!(ge (gd ((gd q 0).rows.getD 0 []) 1) [gd p 0,.i (w64 ((gd p 0).int+1))]))):=by kernel_rfl
def pC(p q:b8):Bool:=
 !(ge (gd ((gd q 0).rows.getD 0 []) 1) [gd p 0,.i (w64 ((gd p 0).int+1))])
def vk:Ent:=(156,e2 (ag Uc) (.one (.c (.cptr [si,.sl 41,.sl 41,.sl 108,.sl 93,.sl 75,.sl 3,.sl 3,si] 0))) fun p q=>(⟨rb,[.b (pC p [gd q 0])]⟩,true))
theorem xN:ay f8 vk:=bm fun p q h=>au (N:=0) (ks:=Gf) (al (fC ⟨DD,fC ⟨pQ,fN⟩⟩)) Tryz.func156 fun hw=>by
 rw[PC]
 try simp only[er,ez,eo]
 rfl
abbrev DP:=find [Gi,qj,abb]
abbrev EE:=[0,1,2,3,4]
theorem Pt(N:Nat)(p q r:b8):bf f8 DP N EE Tryz.f159 rb [⟨ag dG,p⟩,⟨.one (.c (.cptr [si,.sl 41,.sl 41,.sl 108,.sl 93,.sl 75,.sl 3,.sl 3,si] 0)),q⟩,⟨.one (.c (.cptr [.sl 3] 0)),r⟩]=some (bo,
 bif !(ge (gd ((gd q 0).rows.getD 0 []) 1) [gd p 1,gd p 2]) then ob true
 else ob (aC (gd ((gd r 0).rows.getD 0 []) 0) (gd p 0).int)):=by kernel_rfl
def pS(p q r:b8):Bool:=
 bif !(ge (gd ((gd q 0).rows.getD 0 []) 1) [gd p 1,gd p 2]) then true
 else aC (gd ((gd r 0).rows.getD 0 []) 0) (gd p 0).int
def uP:Ent:=(159,e3 (ag dG) (.one (.c (.cptr [si,.sl 41,.sl 41,.sl 108,.sl 93,.sl 75,.sl 3,.sl 3,si] 0))) (.one (.c (.cptr [.sl 3] 0))) fun p q r=>(⟨rb,[.b (pS p [gd q 0] [gd r 0])]⟩,true))
theorem yZ:ay f8 uP:=gW fun p q r h=>au (N:=0) (ks:=EE) (al (fC ⟨BM,fC ⟨pQ,fC ⟨He,fN⟩⟩⟩)) Tryz.func159 fun hw=>by
 rw[Pt]
 try simp only[er,ez,eo]
 rfl
abbrev Zq:=find [vZ]
abbrev ZW:=[0,1,4,5,7,8,9,16]
def DB(N:Nat)(p q:b8):b8->Out:=bb f8 Zq N ZW Tryz.f207 ri [⟨sd (.sl 41),p⟩,⟨.one (.c (.fn 155 [.cptr [si,.sl 41,.sl 41,.sl 108,.sl 93,.sl 75,.sl 3,.sl 3,si] 0])),q⟩] 0
theorem acY(N:Nat)(p q:b8)(y J O M x4:D):(DB N p q) [y,J,O,M,x4] =
 bif ltI x4.int M.int then nd (ah x4.int y.rows.length) (bif pD (sub (y.rows.getD x4.int.toNat []) 0 2) [gd (J.rows.getD 0 []) 0] then some (1,[x4])
 else nx [y,J,O,M,.i (w64 (x4.int+1))])
 else ex 0 [y,J,O,M,x4]:=by kernel_rfl
theorem aia(N:Nat)(p q:b8):bf f8 Zq N ZW Tryz.f207 ri [⟨sd (.sl 41),p⟩,⟨.one (.c (.fn 155 [.cptr [si,.sl 41,.sl 41,.sl 108,.sl 93,.sl 75,.sl 3,.sl 3,si] 0])),q⟩]=some (bo,
 (let y:=aX (DB N p q) N [gd p 0,gd q 0,.i 0,.i ((gd p 0).rows.length:Int),.i 0]
  nd y.isSome (bif y.code==1 then some (1,y.pay)
  else nd (y.code==2) (oi (-1))))):=by kernel_rfl
def sX(c:D)(r:b8):Bool:=pD r [gd (c.rows.getD 0 []) 0]
def aiE:Ent:=(207,e2 (sd (.sl 41)) (.one (.c (.fn 155 [.cptr [si,.sl 41,.sl 41,.sl 108,.sl 93,.sl 75,.sl 3,.sl 3,si] 0]))) fun p q=>(⟨ri,[.i (ixF (fun k=>sX (gd q 0) (sub ((gd p 0).rows.getD k []) 0 2)) 0 (gd p 0).rows.length)]⟩,true))
theorem ahd:ay f8 aiE:=bm fun p q h=>au (N:=(gd p 0).rows.length+1) (ks:=ZW) (al (fC ⟨zu,fN⟩)) Tryz.func207 fun hw=>by
 rw[aia];have hl:=fi (hw ⟨sd (.sl 41),p⟩ (by simp));have e:=iq (L:=DB ((gd p 0).rows.length+1) p q) (fun k => [gd p 0,gd q 0,.i 0,.i ((gd p 0).rows.length:Int),.i (k:Int)]) (gd p 0).rows.length (fun k=>sX (gd q 0) (sub ((gd p 0).rows.getD k []) 0 2)) [gd p 0,gd q 0,.i 0,.i ((gd p 0).rows.length:Int),.i ((gd p 0).rows.length:Int)] (fun k hk=>?_) ?_ (gd p 0).rows.length 0 ((gd p 0).rows.length+1) (by omega) (by omega)
 ·simp only[j9] at e;rw[e];have y:=gT (fun k=>sX (gd q 0) (sub ((gd p 0).rows.getD k []) 0 2)) (gd p 0).rows.length 0;cases J:decide (ixF (fun k=>sX (gd q 0) (sub ((gd p 0).rows.getD k []) 0 2)) 0 (gd p 0).rows.length>=0)
  ·rw[y J];rfl
  ·rfl
 ·show DB _ p q [_,_,_,_,.i (k:Int)]=_;rw[acY];simp only[aA,di hk,bu hk,aG hk hl,g8];unfold sX;cases pD (sub ((gd p 0).rows.getD k []) 0 2) [gd ((gd q 0).rows.getD 0 []) 0] <;> rfl
 ·show DB _ p q [_,_,_,.i ((gd p 0).rows.length:Int),.i ((gd p 0).rows.length:Int)]=_;rw[acY];simp only[aA,ca]
abbrev afy:=find [aiE,vZ]
abbrev aiJ:=[0,1,4]
theorem ahH(N:Nat)(p q:b8):bf f8 afy N aiJ Tryz.f106 rb [⟨sd (.sl 41),p⟩,⟨.one (.c (.fn 155 [.cptr [si,.sl 41,.sl 41,.sl 108,.sl 93,.sl 75,.sl 3,.sl 3,si] 0])),q⟩]=some (bo,
 ob (leI 0 (ixF (fun k=>sX (.l [[gd ((gd q 0).rows.getD 0 []) 0]]) (sub ((gd p 0).rows.getD k []) 0 2)) 0 (gd p 0).rows.length))):=by kernel_rfl
def agB:Ent:=(106,e2 (sd (.sl 41)) (.one (.c (.fn 155 [.cptr [si,.sl 41,.sl 41,.sl 108,.sl 93,.sl 75,.sl 3,.sl 3,si] 0]))) fun p q=>(⟨rb,[.b (eL (fun y=>sX (gd q 0) (sub y 0 2)) (gd p 0))]⟩,true))
theorem aie:ay f8 agB:=bm fun p q h=>au (N:=0) (ks:=aiJ) (al (fC ⟨ahd,fC ⟨zu,fN⟩⟩)) Tryz.func106 fun hw=>by rw[ahH];refine congrArg (fun x=>some (bo,ob x)) ?_;exact (kq (fun k=>sX (gd q 0) (sub ((gd p 0).rows.getD k []) 0 2)) (gd p 0).rows.length 0).trans (by simp only[m0];rfl)
abbrev aaf:=find [vk]
abbrev Zf:=[0,1,4,5,7,8,9,16]
def FZ(N:Nat)(p q:b8):b8->Out:=bb f8 aaf N Zf Tryz.f221 ri [⟨sd (.sl 108),p⟩,⟨.one (.c (.fn 156 [.cptr [si,.sl 41,.sl 41,.sl 108,.sl 93,.sl 75,.sl 3,.sl 3,si] 0])),q⟩] 0
theorem acV(N:Nat)(p q:b8)(y J O M x4:D):(FZ N p q) [y,J,O,M,x4] =
 bif ltI x4.int M.int then nd (ah x4.int y.rows.length) (bif pC (sub (y.rows.getD x4.int.toNat []) 0 2) [gd (J.rows.getD 0 []) 0] then some (1,[x4])
 else nx [y,J,O,M,.i (w64 (x4.int+1))])
 else ex 0 [y,J,O,M,x4]:=by kernel_rfl
theorem aiu(N:Nat)(p q:b8):bf f8 aaf N Zf Tryz.f221 ri [⟨sd (.sl 108),p⟩,⟨.one (.c (.fn 156 [.cptr [si,.sl 41,.sl 41,.sl 108,.sl 93,.sl 75,.sl 3,.sl 3,si] 0])),q⟩]=some (bo,
 (let y:=aX (FZ N p q) N [gd p 0,gd q 0,.i 0,.i ((gd p 0).rows.length:Int),.i 0]
  nd y.isSome (bif y.code==1 then some (1,y.pay)
  else nd (y.code==2) (oi (-1))))):=by kernel_rfl
def sS(c:D)(r:b8):Bool:=pC r [gd (c.rows.getD 0 []) 0]
def ajg:Ent:=(221,e2 (sd (.sl 108)) (.one (.c (.fn 156 [.cptr [si,.sl 41,.sl 41,.sl 108,.sl 93,.sl 75,.sl 3,.sl 3,si] 0]))) fun p q=>(⟨ri,[.i (ixF (fun k=>sS (gd q 0) (sub ((gd p 0).rows.getD k []) 0 2)) 0 (gd p 0).rows.length)]⟩,true))
theorem agY:ay f8 ajg:=bm fun p q h=>au (N:=(gd p 0).rows.length+1) (ks:=Zf) (al (fC ⟨xN,fN⟩)) Tryz.func221 fun hw=>by
 rw[aiu];have hl:=fi (hw ⟨sd (.sl 108),p⟩ (by simp));have e:=iq (L:=FZ ((gd p 0).rows.length+1) p q) (fun k => [gd p 0,gd q 0,.i 0,.i ((gd p 0).rows.length:Int),.i (k:Int)]) (gd p 0).rows.length (fun k=>sS (gd q 0) (sub ((gd p 0).rows.getD k []) 0 2)) [gd p 0,gd q 0,.i 0,.i ((gd p 0).rows.length:Int),.i ((gd p 0).rows.length:Int)] (fun k hk=>?_) ?_ (gd p 0).rows.length 0 ((gd p 0).rows.length+1) (by omega) (by omega)
 ·simp only[j9] at e;rw[e];have y:=gT (fun k=>sS (gd q 0) (sub ((gd p 0).rows.getD k []) 0 2)) (gd p 0).rows.length 0;cases J:decide (ixF (fun k=>sS (gd q 0) (sub ((gd p 0).rows.getD k []) 0 2)) 0 (gd p 0).rows.length>=0)
  ·rw[y J];rfl
  ·rfl
 ·show FZ _ p q [_,_,_,_,.i (k:Int)]=_;rw[acV];simp only[aA,di hk,bu hk,aG hk hl,g8];unfold sS;cases pC (sub ((gd p 0).rows.getD k []) 0 2) [gd ((gd q 0).rows.getD 0 []) 0] <;> rfl
 ·show FZ _ p q [_,_,_,.i ((gd p 0).rows.length:Int),.i ((gd p 0).rows.length:Int)]=_;rw[acV];simp only[aA,ca]
abbrev afR:=find [ajg,vk]
abbrev ahQ:=[0,1,4]
theorem afZ(N:Nat)(p q:b8):bf f8 afR N ahQ Tryz.f128 rb [⟨sd (.sl 108),p⟩,⟨.one (.c (.fn 156 [.cptr [si,.sl 41,.sl 41,.sl 108,.sl 93,.sl 75,.sl 3,.sl 3,si] 0])),q⟩]=some (bo,
 ob (leI 0 (ixF (fun k=>sS (.l [[gd ((gd q 0).rows.getD 0 []) 0]]) (sub ((gd p 0).rows.getD k []) 0 2)) 0 (gd p 0).rows.length))):=by kernel_rfl
def ajd:Ent:=(128,e2 (sd (.sl 108)) (.one (.c (.fn 156 [.cptr [si,.sl 41,.sl 41,.sl 108,.sl 93,.sl 75,.sl 3,.sl 3,si] 0]))) fun p q=>(⟨rb,[.b (eL (fun y=>sS (gd q 0) (sub y 0 2)) (gd p 0))]⟩,true))
theorem ahM:ay f8 ajd:=bm fun p q h=>au (N:=0) (ks:=ahQ) (al (fC ⟨agY,fC ⟨xN,fN⟩⟩)) Tryz.func128 fun hw=>by rw[afZ];refine congrArg (fun x=>some (bo,ob x)) ?_;exact (kq (fun k=>sS (gd q 0) (sub ((gd p 0).rows.getD k []) 0 2)) (gd p 0).rows.length 0).trans (by simp only[m0];rfl)
abbrev aaF:=find [uP]
abbrev ZY:=[0,1,4,5,7,8,9,16]
def Es(N:Nat)(p q:b8):b8->Out:=bb f8 aaF N ZY Tryz.f234 ri [⟨sd (.sl 93),p⟩,⟨.one (.c (.fn 159 [.cptr [si,.sl 41,.sl 41,.sl 108,.sl 93,.sl 75,.sl 3,.sl 3,si] 0,.cptr [.sl 3] 0])),q⟩] 0
theorem acm(N:Nat)(p q:b8)(y J O M x4:D):(Es N p q) [y,J,O,M,x4] =
 bif ltI x4.int M.int then nd (ah x4.int y.rows.length) (bif pS (sub (y.rows.getD x4.int.toNat []) 0 4) [gd (J.rows.getD 0 []) 0] [gd (J.rows.getD 0 []).tail 0] then some (1,[x4])
 else nx [y,J,O,M,.i (w64 (x4.int+1))])
 else ex 0 [y,J,O,M,x4]:=by kernel_rfl
theorem aiy(N:Nat)(p q:b8):bf f8 aaF N ZY Tryz.f234 ri [⟨sd (.sl 93),p⟩,⟨.one (.c (.fn 159 [.cptr [si,.sl 41,.sl 41,.sl 108,.sl 93,.sl 75,.sl 3,.sl 3,si] 0,.cptr [.sl 3] 0])),q⟩]=some (bo,
 (let y:=aX (Es N p q) N [gd p 0,gd q 0,.i 0,.i ((gd p 0).rows.length:Int),.i 0]
  nd y.isSome (bif y.code==1 then some (1,y.pay)
  else nd (y.code==2) (oi (-1))))):=by kernel_rfl
def sP(c:D)(r:b8):Bool:=pS r [gd (c.rows.getD 0 []) 0] [gd (c.rows.getD 0 []).tail 0]
def agU:Ent:=(234,e2 (sd (.sl 93)) (.one (.c (.fn 159 [.cptr [si,.sl 41,.sl 41,.sl 108,.sl 93,.sl 75,.sl 3,.sl 3,si] 0,.cptr [.sl 3] 0]))) fun p q=>(⟨ri,[.i (ixF (fun k=>sP (gd q 0) (sub ((gd p 0).rows.getD k []) 0 4)) 0 (gd p 0).rows.length)]⟩,true))
theorem agi:ay f8 agU:=bm fun p q h=>au (N:=(gd p 0).rows.length+1) (ks:=ZY) (al (fC ⟨yZ,fN⟩)) Tryz.func234 fun hw=>by
 rw[aiy];have hl:=fi (hw ⟨sd (.sl 93),p⟩ (by simp));have e:=iq (L:=Es ((gd p 0).rows.length+1) p q) (fun k => [gd p 0,gd q 0,.i 0,.i ((gd p 0).rows.length:Int),.i (k:Int)]) (gd p 0).rows.length (fun k=>sP (gd q 0) (sub ((gd p 0).rows.getD k []) 0 4)) [gd p 0,gd q 0,.i 0,.i ((gd p 0).rows.length:Int),.i ((gd p 0).rows.length:Int)] (fun k hk=>?_) ?_ (gd p 0).rows.length 0 ((gd p 0).rows.length+1) (by omega) (by omega)
 ·simp only[j9] at e;rw[e];have y:=gT (fun k=>sP (gd q 0) (sub ((gd p 0).rows.getD k []) 0 4)) (gd p 0).rows.length 0;cases J:decide (ixF (fun k=>sP (gd q 0) (sub ((gd p 0).rows.getD k []) 0 4)) 0 (gd p 0).rows.length>=0)
  ·rw[y J];rfl
  ·rfl
 ·show Es _ p q [_,_,_,_,.i (k:Int)]=_;rw[acm];simp only[aA,di hk,bu hk,aG hk hl,g8];unfold sP;cases pS (sub ((gd p 0).rows.getD k []) 0 4) [gd ((gd q 0).rows.getD 0 []) 0] [gd ((gd q 0).rows.getD 0 []).tail 0] <;> rfl
 ·show Es _ p q [_,_,_,.i ((gd p 0).rows.length:Int),.i ((gd p 0).rows.length:Int)]=_;rw[acm];simp only[aA,ca]
abbrev ahp:=find [agU,uP]
abbrev afE:=[0,1,4]
theorem aiZ(N:Nat)(p q:b8):bf f8 ahp N afE Tryz.f158 rb [⟨sd (.sl 93),p⟩,⟨.one (.c (.fn 159 [.cptr [si,.sl 41,.sl 41,.sl 108,.sl 93,.sl 75,.sl 3,.sl 3,si] 0,.cptr [.sl 3] 0])),q⟩]=some (bo,
 ob (leI 0 (ixF (fun k=>sP (.l [[gd ((gd q 0).rows.getD 0 []) 0,gd ((gd q 0).rows.getD 0 []).tail 0]]) (sub ((gd p 0).rows.getD k []) 0 4)) 0 (gd p 0).rows.length))):=by kernel_rfl
def aiW:Ent:=(158,e2 (sd (.sl 93)) (.one (.c (.fn 159 [.cptr [si,.sl 41,.sl 41,.sl 108,.sl 93,.sl 75,.sl 3,.sl 3,si] 0,.cptr [.sl 3] 0]))) fun p q=>(⟨rb,[.b (eL (fun y=>sP (gd q 0) (sub y 0 4)) (gd p 0))]⟩,true))
theorem agy:ay f8 aiW:=bm fun p q h=>au (N:=0) (ks:=afE) (al (fC ⟨agi,fC ⟨yZ,fN⟩⟩)) Tryz.func158 fun hw=>by rw[aiZ];refine congrArg (fun x=>some (bo,ob x)) ?_;exact (kq (fun k=>sP (gd q 0) (sub ((gd p 0).rows.getD k []) 0 4)) (gd p 0).rows.length 0).trans (by simp only[m0];rfl)
abbrev mH:=find [pR,rI,kH,Bv,RB,gN,zA,ig,nq,Ba,zL]
abbrev na:=[0,1,2,3,4,5,6,7,41,69,74,85,90,103,108,135,140,150,1000041,1000069,1000074,1000085,1000090,1000103,1000108,1000135,1000140,1000150]
def fc(N:Nat)(p:b8):b8->Out:=bb f8 mH N na Tryz.f91 rb [⟨ag aR,p⟩] 0
def fh(N:Nat)(p:b8):b8->Out:=bb f8 mH N na Tryz.f91 rb [⟨ag aR,p⟩] 2
def fd(N:Nat)(p:b8):b8->Out:=bb f8 mH N na Tryz.f91 rb [⟨ag aR,p⟩] 4
def ie(N:Nat)(p:b8):b8->Out:=bb f8 mH N na Tryz.f91 rb [⟨ag aR,p⟩] 6
theorem IC(N:Nat)(p:b8)(x0 x1 x2 x3 x4 x5 x6 x7 x8 x9 Y y O M J V a0 a1 W U Z:D):(fc N p) [x0,x1,x2,x3,x4,x5,x6,x7,x8,x9,Y,y,O,M,J,V,a0,a1,W,U,Z] =
 bif ltI y.int (J.rows.length:Int) then nd (ah y.int J.rows.length) (bif !(aT M (sub (J.rows.getD y.int.toNat []) 0 2)) then ob false
 else nx [x0,x1,x2,x3,x4,x5,x6,x7,x8,x9,Y,.i (w64 (y.int+1)),O,M,J,V,a0,a1,W,U,Z])
 else ex 0 [x0,x1,x2,x3,x4,x5,x6,x7,x8,x9,Y,y,O,M,J,V,a0,a1,W,U,Z]:=by kernel_rfl
theorem IS(N:Nat)(p:b8)(x0 x1 x2 x3 x4 x5 x6 x7 x8 x9 a0 U y Z M W J a2 Y O a1 V:D):(fh N p) [x0,x1,x2,x3,x4,x5,x6,x7,x8,x9,a0,U,y,Z,M,W,J,a2,Y,O,a1,V] =
 bif ltI y.int (J.rows.length:Int) then nd (ah y.int J.rows.length) (bif !(aT M [(gd (J.rows.getD y.int.toNat []) 0),.i (w64 ((gd (J.rows.getD y.int.toNat []) 0).int+1))]) then ob false
 else nx [x0,x1,x2,x3,x4,x5,x6,x7,x8,x9,a0,U,.i (w64 (y.int+1)),Z,M,W,J,a2,Y,O,a1,V])
 else ex 2 [x0,x1,x2,x3,x4,x5,x6,x7,x8,x9,a0,U,y,Z,M,W,J,a2,Y,O,a1,V]:=by kernel_rfl
theorem Ka(N:Nat)(p:b8)(x0 x1 x2 x3 x4 x5 x6 x7 x8 x9 a0 Y V J a2 M a1 a3 y W U O Z:D):(fd N p) [x0,x1,x2,x3,x4,x5,x6,x7,x8,x9,a0,Y,V,J,a2,M,a1,a3,y,W,U,O,Z] =
 bif ltI J.int (y.rows.length:Int) then nd (ah J.int y.rows.length) (bif !(aT M [(gd (y.rows.getD J.int.toNat []) 1),(gd (y.rows.getD J.int.toNat []) 2)]) then ob false
 else bif aC U (gd (y.rows.getD J.int.toNat []) 0).int then ob false
 else bif aC O (gd (y.rows.getD J.int.toNat []) 0).int then ob false
 else nx [x0,x1,x2,x3,x4,x5,x6,x7,x8,x9,a0,Y,V,.i (w64 (J.int+1)),a2,M,a1,a3,y,W,U,O,Z])
 else ex 4 [x0,x1,x2,x3,x4,x5,x6,x7,x8,x9,a0,Y,V,J,a2,M,a1,a3,y,W,U,O,Z]:=by kernel_rfl
theorem IN(N:Nat)(p:b8)(x0 x1 x2 x3 x4 x5 x6 x7 x8 x9 a1 W U a0 J Y a3 a4 Z V a2 y M O:D):(ie N p) [x0,x1,x2,x3,x4,x5,x6,x7,x8,x9,a1,W,U,a0,J,Y,a3,a4,Z,V,a2,y,M,O] =
 bif ltI J.int (y.rows.length:Int) then nd (ah J.int y.rows.length) (bif aC M (gd (y.rows.getD J.int.toNat []) 0).int then ob false
 else nx [x0,x1,x2,x3,x4,x5,x6,x7,x8,x9,a1,W,U,a0,.i (w64 (J.int+1)),Y,a3,a4,Z,V,a2,y,M,O])
 else ex 6 [x0,x1,x2,x3,x4,x5,x6,x7,x8,x9,a1,W,U,a0,J,Y,a3,a4,Z,V,a2,y,M,O]:=by kernel_rfl
def WX(N:Nat)(p:b8)(y:Out):Out:=nd (leI ((gd y.pay 20).rows.length:Int) 1000000000) (ob (leI (w64 (((gd y.pay 18).rows.length:Int)+(eI (gd y.pay 18) (gd y.pay 20) (gd y.pay 20).rows.length))) 60))
def nR(N:Nat)(p:b8)(y:Out):Out:=bif y.code==1 then some (1,y.pay) else nd (y.code==8) (bif gx (sub y.pay 15 9) then (WX N p y) else ob false)
def nV(N:Nat)(p:b8)(y:Out):Out:=let J:Out:=aX (ie N p) N [gd y.pay 0,gd y.pay 1,gd y.pay 2,gd y.pay 3,gd y.pay 4,gd y.pay 5,gd y.pay 6,gd y.pay 7,gd y.pay 8,gd y.pay 9,gd y.pay 10,gd y.pay 11,gd y.pay 12,gd y.pay 13,.i 0,gd y.pay 14,gd y.pay 15,gd y.pay 16,gd y.pay 17,gd y.pay 18,gd y.pay 19,gd y.pay 20,gd y.pay 21,gd y.pay 22];nd J.isSome (nR N p J)
def ot(N:Nat)(p:b8)(y:Out):Out:=let J:Out:=aX (fd N p) N [gd y.pay 0,gd y.pay 1,gd y.pay 2,gd y.pay 3,gd y.pay 4,gd y.pay 5,gd y.pay 6,gd y.pay 7,gd y.pay 8,gd y.pay 9,gd y.pay 10,gd y.pay 11,gd y.pay 12,.i 0,gd y.pay 13,gd y.pay 14,gd y.pay 15,gd y.pay 16,gd y.pay 17,gd y.pay 18,gd y.pay 19,gd y.pay 20,gd y.pay 21];nd J.isSome (bif J.code==1 then some (1,J.pay) else nd (J.code==6) (nV N p J))
def nW(N:Nat)(p:b8)(y:Out):Out:=let J:Out:=aX (fh N p) N [gd y.pay 0,gd y.pay 1,gd y.pay 2,gd y.pay 3,gd y.pay 4,gd y.pay 5,gd y.pay 6,gd y.pay 7,gd y.pay 8,gd y.pay 9,gd y.pay 10,gd y.pay 11,.i 0,gd y.pay 12,gd y.pay 13,gd y.pay 14,gd y.pay 15,gd y.pay 16,gd y.pay 17,gd y.pay 18,gd y.pay 19,gd y.pay 20];nd J.isSome (bif J.code==1 then some (1,J.pay) else nd (J.code==4) (ot N p J))
def yW(N:Nat)(p:b8):Out:=let y:Out:=aX (fc N p) N [gd p 0,gd p 1,gd p 2,gd p 3,gd p 4,gd p 5,gd p 6,gd p 7,gd p 8,.i 0,.i 0,.i 0,gd p 0,gd p 1,gd p 2,gd p 3,gd p 4,gd p 5,gd p 6,gd p 7,gd p 8];nd y.isSome (bif y.code==1 then some (1,y.pay) else nd (y.code==2) (nW N p y))
def Jb(N:Nat)(p:b8):Out:=bif ltI 60 ((gd p 7).rows.length:Int) then ob false else bif !(gF (gd p 6)) then ob false else bif !(gF (gd p 7)) then ob false else (yW N p)
def Jq(N:Nat)(p:b8):Out:=bif ltI 60 ((gd p 5).rows.length:Int) then ob false else bif ltI 60 ((gd p 6).rows.length:Int) then ob false else (Jb N p)
def IY(N:Nat)(p:b8):Out:=bif !(aY (gd p 4)) then ob false else bif !(inB (gd p 8).int 0 1000000) then ob false else (Jq N p)
def IT(N:Nat)(p:b8):Out:=bif !(bB (gd p 2)) then ob false else bif !(aN (gd p 3)) then ob false else (IY N p)
def vM(N:Nat)(p:b8):Out:=bif !(inB (gd p 0).int 0 3) then ob false else bif !(bB (gd p 1)) then ob false else (IT N p)
theorem UQ(N:Nat)(p:b8):bf f8 mH N na Tryz.f91 rb [⟨ag aR,p⟩]=some (bo,(vM N p)):=by kernel_rfl
def pG(p:b8)(k:Nat):Bool:=aT (gd p 1) (sub ((gd p 2).rows.getD k []) 0 2)
def lm(p:b8)(k:Nat):Bool:=aT (gd p 1) [gd ((gd p 3).rows.getD k []) 0,.i (w64 ((gd ((gd p 3).rows.getD k []) 0).int+1))]
def iT(p:b8)(k:Nat):Bool:=(aT (gd p 1) [gd ((gd p 4).rows.getD k []) 1,gd ((gd p 4).rows.getD k []) 2]&&(!aC (gd p 6) (gd ((gd p 4).rows.getD k []) 0).int && !aC (gd p 7) (gd ((gd p 4).rows.getD k []) 0).int))
def im(p:b8)(k:Nat):Bool:= !aC (gd p 7) (gd ((gd p 6).rows.getD k []) 0).int
def cW(p:b8)(f j:Nat)(C:b8->Nat->Bool):Bool:=(List.range (gd p f).rows.length).all (C p)
def ff(p:b8):Bool:=gx p&&leI (((gd p 3).rows.length:Int)+eI (gd p 3) (gd p 5) (gd p 5).rows.length) 60
def aW(p:b8):Bool:=inB (gd p 0).int 0 3&&(bB (gd p 1)&&(bB (gd p 2)&&(aN (gd p 3)&&(aY (gd p 4)&&(inB (gd p 8).int 0 1000000&&(leI ((gd p 5).rows.length:Int) 60&&(leI ((gd p 6).rows.length:Int) 60&&(leI ((gd p 7).rows.length:Int) 60&&(gF (gd p 6)&&(gF (gd p 7)&&(cW p 2 0 pG&&(cW p 3 2 lm&&(cW p 4 4 iT&&(cW p 6 6 im&&(ff p)))))))))))))))
theorem Wn(p:b8)(N:Nat)(y:(gd p 2).rows.length<N)(hl:(gd p 2).rows.length<=9223372036854775807):aX (fc N p) N [gd p 0,gd p 1,gd p 2,gd p 3,gd p 4,gd p 5,gd p 6,gd p 7,gd p 8,.i 0,.i 0,.i 0,gd p 0,gd p 1,gd p 2,gd p 3,gd p 4,gd p 5,gd p 6,gd p 7,gd p 8]=some (bif cW p 2 0 pG then (2,[gd p 0,gd p 1,gd p 2,gd p 3,gd p 4,gd p 5,gd p 6,gd p 7,gd p 8,.i 0,.i 0,.i ((gd p 2).rows.length:Int),gd p 0,gd p 1,gd p 2,gd p 3,gd p 4,gd p 5,gd p 6,gd p 7,gd p 8]) else (1,[.b false])):=by
 have e:=dE (L:=fc N p) (fun k => [gd p 0,gd p 1,gd p 2,gd p 3,gd p 4,gd p 5,gd p 6,gd p 7,gd p 8,.i 0,.i 0,.i (k:Int),gd p 0,gd p 1,gd p 2,gd p 3,gd p 4,gd p 5,gd p 6,gd p 7,gd p 8]) (gd p 2).rows.length (pG p) [.b false] 0 (fun k hk=>?_) ?_ (N:=N) y
 ·simp only[j9] at e;exact e
 ·show fc _ p [_,_,_,_,_,_,_,_,_,_,_,.i (k:Int),_,_,_,_,_,_,_,_,_]=_;rw[IC];simp only[aA,di hk,bu hk,aG hk hl,g8];unfold pG;cases aT (gd p 1) (sub ((gd p 2).rows.getD k []) 0 2) <;> rfl
 ·show fc _ p [_,_,_,_,_,_,_,_,_,_,_,.i ((gd p 2).rows.length:Int),_,_,_,_,_,_,_,_,_]=_;rw[IC];simp only[aA,ca]
theorem XM(p:b8)(N:Nat)(y:(gd p 3).rows.length<N)(hl:(gd p 3).rows.length<=9223372036854775807):aX (fh N p) N [gd p 0,gd p 1,gd p 2,gd p 3,gd p 4,gd p 5,gd p 6,gd p 7,gd p 8,.i 0,.i 0,.i ((gd p 2).rows.length:Int),.i 0,gd p 0,gd p 1,gd p 2,gd p 3,gd p 4,gd p 5,gd p 6,gd p 7,gd p 8]=some (bif cW p 3 2 lm then (4,[gd p 0,gd p 1,gd p 2,gd p 3,gd p 4,gd p 5,gd p 6,gd p 7,gd p 8,.i 0,.i 0,.i ((gd p 2).rows.length:Int),.i ((gd p 3).rows.length:Int),gd p 0,gd p 1,gd p 2,gd p 3,gd p 4,gd p 5,gd p 6,gd p 7,gd p 8]) else (1,[.b false])):=by
 have e:=dE (L:=fh N p) (fun k => [gd p 0,gd p 1,gd p 2,gd p 3,gd p 4,gd p 5,gd p 6,gd p 7,gd p 8,.i 0,.i 0,.i ((gd p 2).rows.length:Int),.i (k:Int),gd p 0,gd p 1,gd p 2,gd p 3,gd p 4,gd p 5,gd p 6,gd p 7,gd p 8]) (gd p 3).rows.length (lm p) [.b false] 2 (fun k hk=>?_) ?_ (N:=N) y
 ·simp only[j9] at e;exact e
 ·show fh _ p [_,_,_,_,_,_,_,_,_,_,_,_,.i (k:Int),_,_,_,_,_,_,_,_,_]=_;rw[IS];simp only[aA,di hk,bu hk,aG hk hl,g8];unfold lm;cases aT (gd p 1) [gd ((gd p 3).rows.getD k []) 0,.i (w64 ((gd ((gd p 3).rows.getD k []) 0).int+1))] <;> rfl
 ·show fh _ p [_,_,_,_,_,_,_,_,_,_,_,_,.i ((gd p 3).rows.length:Int),_,_,_,_,_,_,_,_,_]=_;rw[IS];simp only[aA,ca]
theorem WN(p:b8)(N:Nat)(y:(gd p 4).rows.length<N)(hl:(gd p 4).rows.length<=9223372036854775807):aX (fd N p) N [gd p 0,gd p 1,gd p 2,gd p 3,gd p 4,gd p 5,gd p 6,gd p 7,gd p 8,.i 0,.i 0,.i ((gd p 2).rows.length:Int),.i ((gd p 3).rows.length:Int),.i 0,gd p 0,gd p 1,gd p 2,gd p 3,gd p 4,gd p 5,gd p 6,gd p 7,gd p 8]=some (bif cW p 4 4 iT then (6,[gd p 0,gd p 1,gd p 2,gd p 3,gd p 4,gd p 5,gd p 6,gd p 7,gd p 8,.i 0,.i 0,.i ((gd p 2).rows.length:Int),.i ((gd p 3).rows.length:Int),.i ((gd p 4).rows.length:Int),gd p 0,gd p 1,gd p 2,gd p 3,gd p 4,gd p 5,gd p 6,gd p 7,gd p 8]) else (1,[.b false])):=by
 have e:=dE (L:=fd N p) (fun k => [gd p 0,gd p 1,gd p 2,gd p 3,gd p 4,gd p 5,gd p 6,gd p 7,gd p 8,.i 0,.i 0,.i ((gd p 2).rows.length:Int),.i ((gd p 3).rows.length:Int),.i (k:Int),gd p 0,gd p 1,gd p 2,gd p 3,gd p 4,gd p 5,gd p 6,gd p 7,gd p 8]) (gd p 4).rows.length (iT p) [.b false] 4 (fun k hk=>?_) ?_ (N:=N) y
 ·simp only[j9] at e;exact e
 ·show fd _ p [_,_,_,_,_,_,_,_,_,_,_,_,_,.i (k:Int),_,_,_,_,_,_,_,_,_]=_;rw[Ka];simp only[aA,di hk,bu hk,aG hk hl,g8];unfold iT;cases aT (gd p 1) [gd ((gd p 4).rows.getD k []) 1,gd ((gd p 4).rows.getD k []) 2] <;> cases aC (gd p 6) (gd ((gd p 4).rows.getD k []) 0).int <;> cases aC (gd p 7) (gd ((gd p 4).rows.getD k []) 0).int <;> rfl
 ·show fd _ p [_,_,_,_,_,_,_,_,_,_,_,_,_,.i ((gd p 4).rows.length:Int),_,_,_,_,_,_,_,_,_]=_;rw[Ka];simp only[aA,ca]
theorem Wx(p:b8)(N:Nat)(y:(gd p 6).rows.length<N)(hl:(gd p 6).rows.length<=9223372036854775807):aX (ie N p) N [gd p 0,gd p 1,gd p 2,gd p 3,gd p 4,gd p 5,gd p 6,gd p 7,gd p 8,.i 0,.i 0,.i ((gd p 2).rows.length:Int),.i ((gd p 3).rows.length:Int),.i ((gd p 4).rows.length:Int),.i 0,gd p 0,gd p 1,gd p 2,gd p 3,gd p 4,gd p 5,gd p 6,gd p 7,gd p 8]=some (bif cW p 6 6 im then (8,[gd p 0,gd p 1,gd p 2,gd p 3,gd p 4,gd p 5,gd p 6,gd p 7,gd p 8,.i 0,.i 0,.i ((gd p 2).rows.length:Int),.i ((gd p 3).rows.length:Int),.i ((gd p 4).rows.length:Int),.i ((gd p 6).rows.length:Int),gd p 0,gd p 1,gd p 2,gd p 3,gd p 4,gd p 5,gd p 6,gd p 7,gd p 8]) else (1,[.b false])):=by
 have e:=dE (L:=ie N p) (fun k => [gd p 0,gd p 1,gd p 2,gd p 3,gd p 4,gd p 5,gd p 6,gd p 7,gd p 8,.i 0,.i 0,.i ((gd p 2).rows.length:Int),.i ((gd p 3).rows.length:Int),.i ((gd p 4).rows.length:Int),.i (k:Int),gd p 0,gd p 1,gd p 2,gd p 3,gd p 4,gd p 5,gd p 6,gd p 7,gd p 8]) (gd p 6).rows.length (im p) [.b false] 6 (fun k hk=>?_) ?_ (N:=N) y
 ·simp only[j9] at e;exact e
 ·show ie _ p [_,_,_,_,_,_,_,_,_,_,_,_,_,_,.i (k:Int),_,_,_,_,_,_,_,_,_]=_;rw[IN];simp only[aA,di hk,bu hk,aG hk hl,g8];unfold im;cases aC (gd p 7) (gd ((gd p 6).rows.getD k []) 0).int <;> rfl
 ·show ie _ p [_,_,_,_,_,_,_,_,_,_,_,_,_,_,.i ((gd p 6).rows.length:Int),_,_,_,_,_,_,_,_,_]=_;rw[IN];simp only[aA,ca]
theorem amV(n:Nat):ltI 60 (n:Int) = !leI (n:Int) 60:=by rw[y0];simp only[ltI,leI,g5,o8,B9];omega
theorem Wh(p:b8)(N:Nat)(y:leI ((gd p 5).rows.length:Int) 60=true)(J:aN (gd p 3)=true):nR N p (some (8,[gd p 0,gd p 1,gd p 2,gd p 3,gd p 4,gd p 5,gd p 6,gd p 7,gd p 8,.i 0,.i 0,.i ((gd p 2).rows.length:Int),.i ((gd p 3).rows.length:Int),.i ((gd p 4).rows.length:Int),.i ((gd p 6).rows.length:Int),gd p 0,gd p 1,gd p 2,gd p 3,gd p 4,gd p 5,gd p 6,gd p 7,gd p 8]))=ob (ff p):=by simp only[leI,g5] at y;have M:=(ep J).len;have O:=qc (gd p 3) (gd p 5) (gd p 5).rows.length;rw[show nR N p (some (8,[gd p 0,gd p 1,gd p 2,gd p 3,gd p 4,gd p 5,gd p 6,gd p 7,gd p 8,.i 0,.i 0,.i ((gd p 2).rows.length:Int),.i ((gd p 3).rows.length:Int),.i ((gd p 4).rows.length:Int),.i ((gd p 6).rows.length:Int),gd p 0,gd p 1,gd p 2,gd p 3,gd p 4,gd p 5,gd p 6,gd p 7,gd p 8]))=(bif gx p then nd (leI ((gd p 5).rows.length:Int) 1000000000) (ob (leI (w64 (((gd p 3).rows.length:Int)+eI (gd p 3) (gd p 5) (gd p 5).rows.length)) 60)) else ob false) from by kernel_rfl];rw[bi (show ((gd p 5).rows.length:Int)<=1000000000 from by omega),aU,bD (by omega) (by omega)];unfold ff;cases gx p <;> rfl
theorem Xe(p:b8)(N:Nat)(M:((gd p 2).rows.length+(gd p 3).rows.length+(gd p 4).rows.length+(gd p 6).rows.length+1)<=N)(hl:∀j,j ∈ [2,3,4,6]->(gd p j).rows.length<=9223372036854775807)(y:leI ((gd p 5).rows.length:Int) 60=true)(J:aN (gd p 3)=true):nV N p (some (6,[gd p 0,gd p 1,gd p 2,gd p 3,gd p 4,gd p 5,gd p 6,gd p 7,gd p 8,.i 0,.i 0,.i ((gd p 2).rows.length:Int),.i ((gd p 3).rows.length:Int),.i ((gd p 4).rows.length:Int),gd p 0,gd p 1,gd p 2,gd p 3,gd p 4,gd p 5,gd p 6,gd p 7,gd p 8]))=ob (cW p 6 6 im&&(ff p)):=by
 rw[show nV N p (some (6,[gd p 0,gd p 1,gd p 2,gd p 3,gd p 4,gd p 5,gd p 6,gd p 7,gd p 8,.i 0,.i 0,.i ((gd p 2).rows.length:Int),.i ((gd p 3).rows.length:Int),.i ((gd p 4).rows.length:Int),gd p 0,gd p 1,gd p 2,gd p 3,gd p 4,gd p 5,gd p 6,gd p 7,gd p 8]))=nd (aX (ie N p) N [gd p 0,gd p 1,gd p 2,gd p 3,gd p 4,gd p 5,gd p 6,gd p 7,gd p 8,.i 0,.i 0,.i ((gd p 2).rows.length:Int),.i ((gd p 3).rows.length:Int),.i ((gd p 4).rows.length:Int),.i 0,gd p 0,gd p 1,gd p 2,gd p 3,gd p 4,gd p 5,gd p 6,gd p 7,gd p 8]).isSome (nR N p (aX (ie N p) N [gd p 0,gd p 1,gd p 2,gd p 3,gd p 4,gd p 5,gd p 6,gd p 7,gd p 8,.i 0,.i 0,.i ((gd p 2).rows.length:Int),.i ((gd p 3).rows.length:Int),.i ((gd p 4).rows.length:Int),.i 0,gd p 0,gd p 1,gd p 2,gd p 3,gd p 4,gd p 5,gd p 6,gd p 7,gd p 8])) from by kernel_rfl];rw[Wx p N (by omega) (hl 6 (by simp))];cases cW p 6 6 im
 ·rfl
 ·show nR N p (some (8,[gd p 0,gd p 1,gd p 2,gd p 3,gd p 4,gd p 5,gd p 6,gd p 7,gd p 8,.i 0,.i 0,.i ((gd p 2).rows.length:Int),.i ((gd p 3).rows.length:Int),.i ((gd p 4).rows.length:Int),.i ((gd p 6).rows.length:Int),gd p 0,gd p 1,gd p 2,gd p 3,gd p 4,gd p 5,gd p 6,gd p 7,gd p 8]))=ob (true&&(ff p));rw[y7];exact Wh p N y J
theorem YD(p:b8)(N:Nat)(M:((gd p 2).rows.length+(gd p 3).rows.length+(gd p 4).rows.length+(gd p 6).rows.length+1)<=N)(hl:∀j,j ∈ [2,3,4,6]->(gd p j).rows.length<=9223372036854775807)(y:leI ((gd p 5).rows.length:Int) 60=true)(J:aN (gd p 3)=true):ot N p (some (4,[gd p 0,gd p 1,gd p 2,gd p 3,gd p 4,gd p 5,gd p 6,gd p 7,gd p 8,.i 0,.i 0,.i ((gd p 2).rows.length:Int),.i ((gd p 3).rows.length:Int),gd p 0,gd p 1,gd p 2,gd p 3,gd p 4,gd p 5,gd p 6,gd p 7,gd p 8]))=ob (cW p 4 4 iT&&(cW p 6 6 im&&(ff p))):=by
 rw[show ot N p (some (4,[gd p 0,gd p 1,gd p 2,gd p 3,gd p 4,gd p 5,gd p 6,gd p 7,gd p 8,.i 0,.i 0,.i ((gd p 2).rows.length:Int),.i ((gd p 3).rows.length:Int),gd p 0,gd p 1,gd p 2,gd p 3,gd p 4,gd p 5,gd p 6,gd p 7,gd p 8]))=nd (aX (fd N p) N [gd p 0,gd p 1,gd p 2,gd p 3,gd p 4,gd p 5,gd p 6,gd p 7,gd p 8,.i 0,.i 0,.i ((gd p 2).rows.length:Int),.i ((gd p 3).rows.length:Int),.i 0,gd p 0,gd p 1,gd p 2,gd p 3,gd p 4,gd p 5,gd p 6,gd p 7,gd p 8]).isSome (bif Out.code (aX (fd N p) N [gd p 0,gd p 1,gd p 2,gd p 3,gd p 4,gd p 5,gd p 6,gd p 7,gd p 8,.i 0,.i 0,.i ((gd p 2).rows.length:Int),.i ((gd p 3).rows.length:Int),.i 0,gd p 0,gd p 1,gd p 2,gd p 3,gd p 4,gd p 5,gd p 6,gd p 7,gd p 8])==1 then some (1,Out.pay (aX (fd N p) N [gd p 0,gd p 1,gd p 2,gd p 3,gd p 4,gd p 5,gd p 6,gd p 7,gd p 8,.i 0,.i 0,.i ((gd p 2).rows.length:Int),.i ((gd p 3).rows.length:Int),.i 0,gd p 0,gd p 1,gd p 2,gd p 3,gd p 4,gd p 5,gd p 6,gd p 7,gd p 8])) else nd (Out.code (aX (fd N p) N [gd p 0,gd p 1,gd p 2,gd p 3,gd p 4,gd p 5,gd p 6,gd p 7,gd p 8,.i 0,.i 0,.i ((gd p 2).rows.length:Int),.i ((gd p 3).rows.length:Int),.i 0,gd p 0,gd p 1,gd p 2,gd p 3,gd p 4,gd p 5,gd p 6,gd p 7,gd p 8])==6) (nV N p (aX (fd N p) N [gd p 0,gd p 1,gd p 2,gd p 3,gd p 4,gd p 5,gd p 6,gd p 7,gd p 8,.i 0,.i 0,.i ((gd p 2).rows.length:Int),.i ((gd p 3).rows.length:Int),.i 0,gd p 0,gd p 1,gd p 2,gd p 3,gd p 4,gd p 5,gd p 6,gd p 7,gd p 8]))) from by kernel_rfl];rw[WN p N (by omega) (hl 4 (by simp))];cases cW p 4 4 iT
 ·rfl
 ·show nV N p (some (6,[gd p 0,gd p 1,gd p 2,gd p 3,gd p 4,gd p 5,gd p 6,gd p 7,gd p 8,.i 0,.i 0,.i ((gd p 2).rows.length:Int),.i ((gd p 3).rows.length:Int),.i ((gd p 4).rows.length:Int),gd p 0,gd p 1,gd p 2,gd p 3,gd p 4,gd p 5,gd p 6,gd p 7,gd p 8]))=ob (true&&(cW p 6 6 im&&(ff p)));rw[y7];exact Xe p N M hl y J
theorem WJ(p:b8)(N:Nat)(M:((gd p 2).rows.length+(gd p 3).rows.length+(gd p 4).rows.length+(gd p 6).rows.length+1)<=N)(hl:∀j,j ∈ [2,3,4,6]->(gd p j).rows.length<=9223372036854775807)(y:leI ((gd p 5).rows.length:Int) 60=true)(J:aN (gd p 3)=true):nW N p (some (2,[gd p 0,gd p 1,gd p 2,gd p 3,gd p 4,gd p 5,gd p 6,gd p 7,gd p 8,.i 0,.i 0,.i ((gd p 2).rows.length:Int),gd p 0,gd p 1,gd p 2,gd p 3,gd p 4,gd p 5,gd p 6,gd p 7,gd p 8]))=ob (cW p 3 2 lm&&(cW p 4 4 iT&&(cW p 6 6 im&&(ff p)))):=by
 rw[show nW N p (some (2,[gd p 0,gd p 1,gd p 2,gd p 3,gd p 4,gd p 5,gd p 6,gd p 7,gd p 8,.i 0,.i 0,.i ((gd p 2).rows.length:Int),gd p 0,gd p 1,gd p 2,gd p 3,gd p 4,gd p 5,gd p 6,gd p 7,gd p 8]))=nd (aX (fh N p) N [gd p 0,gd p 1,gd p 2,gd p 3,gd p 4,gd p 5,gd p 6,gd p 7,gd p 8,.i 0,.i 0,.i ((gd p 2).rows.length:Int),.i 0,gd p 0,gd p 1,gd p 2,gd p 3,gd p 4,gd p 5,gd p 6,gd p 7,gd p 8]).isSome (bif Out.code (aX (fh N p) N [gd p 0,gd p 1,gd p 2,gd p 3,gd p 4,gd p 5,gd p 6,gd p 7,gd p 8,.i 0,.i 0,.i ((gd p 2).rows.length:Int),.i 0,gd p 0,gd p 1,gd p 2,gd p 3,gd p 4,gd p 5,gd p 6,gd p 7,gd p 8])==1 then some (1,Out.pay (aX (fh N p) N [gd p 0,gd p 1,gd p 2,gd p 3,gd p 4,gd p 5,gd p 6,gd p 7,gd p 8,.i 0,.i 0,.i ((gd p 2).rows.length:Int),.i 0,gd p 0,gd p 1,gd p 2,gd p 3,gd p 4,gd p 5,gd p 6,gd p 7,gd p 8])) else nd (Out.code (aX (fh N p) N [gd p 0,gd p 1,gd p 2,gd p 3,gd p 4,gd p 5,gd p 6,gd p 7,gd p 8,.i 0,.i 0,.i ((gd p 2).rows.length:Int),.i 0,gd p 0,gd p 1,gd p 2,gd p 3,gd p 4,gd p 5,gd p 6,gd p 7,gd p 8])==4) (ot N p (aX (fh N p) N [gd p 0,gd p 1,gd p 2,gd p 3,gd p 4,gd p 5,gd p 6,gd p 7,gd p 8,.i 0,.i 0,.i ((gd p 2).rows.length:Int),.i 0,gd p 0,gd p 1,gd p 2,gd p 3,gd p 4,gd p 5,gd p 6,gd p 7,gd p 8]))) from by kernel_rfl];rw[XM p N (by omega) (hl 3 (by simp))];cases cW p 3 2 lm
 ·rfl
 ·show ot N p (some (4,[gd p 0,gd p 1,gd p 2,gd p 3,gd p 4,gd p 5,gd p 6,gd p 7,gd p 8,.i 0,.i 0,.i ((gd p 2).rows.length:Int),.i ((gd p 3).rows.length:Int),gd p 0,gd p 1,gd p 2,gd p 3,gd p 4,gd p 5,gd p 6,gd p 7,gd p 8]))=ob (true&&(cW p 4 4 iT&&(cW p 6 6 im&&(ff p))));rw[y7];exact YD p N M hl y J
theorem Yh(p:b8)(N:Nat)(M:((gd p 2).rows.length+(gd p 3).rows.length+(gd p 4).rows.length+(gd p 6).rows.length+1)<=N)(hl:∀j,j ∈ [2,3,4,6]->(gd p j).rows.length<=9223372036854775807)(y:leI ((gd p 5).rows.length:Int) 60=true)(J:aN (gd p 3)=true):yW N p=ob (cW p 2 0 pG&&(cW p 3 2 lm&&(cW p 4 4 iT&&(cW p 6 6 im&&(ff p))))):=by
 rw[show yW N p=nd (aX (fc N p) N [gd p 0,gd p 1,gd p 2,gd p 3,gd p 4,gd p 5,gd p 6,gd p 7,gd p 8,.i 0,.i 0,.i 0,gd p 0,gd p 1,gd p 2,gd p 3,gd p 4,gd p 5,gd p 6,gd p 7,gd p 8]).isSome (bif Out.code (aX (fc N p) N [gd p 0,gd p 1,gd p 2,gd p 3,gd p 4,gd p 5,gd p 6,gd p 7,gd p 8,.i 0,.i 0,.i 0,gd p 0,gd p 1,gd p 2,gd p 3,gd p 4,gd p 5,gd p 6,gd p 7,gd p 8])==1 then some (1,Out.pay (aX (fc N p) N [gd p 0,gd p 1,gd p 2,gd p 3,gd p 4,gd p 5,gd p 6,gd p 7,gd p 8,.i 0,.i 0,.i 0,gd p 0,gd p 1,gd p 2,gd p 3,gd p 4,gd p 5,gd p 6,gd p 7,gd p 8])) else nd (Out.code (aX (fc N p) N [gd p 0,gd p 1,gd p 2,gd p 3,gd p 4,gd p 5,gd p 6,gd p 7,gd p 8,.i 0,.i 0,.i 0,gd p 0,gd p 1,gd p 2,gd p 3,gd p 4,gd p 5,gd p 6,gd p 7,gd p 8])==2) (nW N p (aX (fc N p) N [gd p 0,gd p 1,gd p 2,gd p 3,gd p 4,gd p 5,gd p 6,gd p 7,gd p 8,.i 0,.i 0,.i 0,gd p 0,gd p 1,gd p 2,gd p 3,gd p 4,gd p 5,gd p 6,gd p 7,gd p 8]))) from by kernel_rfl];rw[Wn p N (by omega) (hl 2 (by simp))];cases cW p 2 0 pG
 ·rfl
 ·show nW N p (some (2,[gd p 0,gd p 1,gd p 2,gd p 3,gd p 4,gd p 5,gd p 6,gd p 7,gd p 8,.i 0,.i 0,.i ((gd p 2).rows.length:Int),gd p 0,gd p 1,gd p 2,gd p 3,gd p 4,gd p 5,gd p 6,gd p 7,gd p 8]))=ob (true&&(cW p 3 2 lm&&(cW p 4 4 iT&&(cW p 6 6 im&&(ff p)))));rw[y7];exact WJ p N M hl y J
theorem eY{a g:Bool}{x:Out}(h:a=true->x=ob g):(bif !a then ob false else x)=ob (a&&g):=by
 cases a
 ·rfl
 ·exact h rfl
def kU:Ent:=(91,e1 (ag aR) fun p=>(⟨rb,[.b (aW p)]⟩,true))
theorem jR:ay f8 kU:=cK fun p h=>au (N:=((gd p 2).rows.length+(gd p 3).rows.length+(gd p 4).rows.length+(gd p 6).rows.length+1)) (ks:=na) (al (fC ⟨nk,fC ⟨sZ,fC ⟨jC,fC ⟨Dx,fC ⟨WI,fC ⟨gn,fC ⟨xU,fC ⟨gL,fC ⟨kY,fC ⟨Kx,fC ⟨yk,fN⟩⟩⟩⟩⟩⟩⟩⟩⟩⟩⟩)) Tryz.func91 fun hw=>by
 rw[UQ];have hl:∀j,j ∈ [2,3,4,6]->(gd p j).rows.length<=9223372036854775807:=by intro j y;simp only[B5,List.not_mem_nil,or_false] at y;rcases y with rfl | rfl | rfl | rfl <;> exact akQ (hw ⟨ag aR,p⟩ (by simp)) rfl
 refine congrArg (fun x=>some (bo,x)) ?_;show vM ((gd p 2).rows.length+(gd p 3).rows.length+(gd p 4).rows.length+(gd p 6).rows.length+1) p=ob (aW p);unfold vM IT IY Jq Jb aW;simp only[amV];refine eY fun _=>?_
 refine eY fun _=>?_
 refine eY fun _=>?_
 refine eY fun J=>?_
 refine eY fun _=>?_
 refine eY fun _=>?_
 refine eY fun M=>?_
 refine eY fun _=>?_
 refine eY fun _=>?_
 refine eY fun _=>?_
 refine eY fun _=>?_
 exact Yh p _ (i8 _) hl M J
end Go.Proofs.YtpdfmcmnjikppaaGreat
namespace Go.Proofs
open Go.Shelf
def Tryz.lays189_ren:Go.Shelf.Ren:=⟨fun | 189=>161 | 125=>236 | 257=>235 | 128=>268 | 129=>269 | 294=>260 | 295=>261 | 296=>262 | 297=>263 | 298=>264 | 299=>265 | 216=>214 | 300=>266 | 301=>267 | 328=>287 | 329=>288 | 330=>289 | 331=>290 | 332=>291 | 215=>255 | 343=>298 | n=>n,fun | 28=>26 | 3=>3 | 46=>187 | 0=>0 | 51=>228 | 53=>230 | 4=>4 | 183=>222 | 182=>221 | 131=>128 | 5=>5 | 9=>9 | 218=>240 | 222=>244 | 228=>249 | 229=>250 | n=>n,fun | n=>n⟩
theorem Tryz.lays189:Go.Proofs.Lays.n189 Tryz.prog Tryz.lays189_ren:={ mixed:=by kernel_rfl,f125:=Tryz.func236.trans (congrArg some (by kernel_rfl)),f128:=Tryz.func268.trans (congrArg some (by kernel_rfl)),f129:=Tryz.func269.trans (congrArg some (by kernel_rfl)),f189:=Tryz.func161.trans (congrArg some (by kernel_rfl)),f215:=Tryz.func255.trans (congrArg some (by kernel_rfl)),f216:=Tryz.func214.trans (congrArg some (by kernel_rfl)),f257:=Tryz.func235.trans (congrArg some (by kernel_rfl)),f294:=Tryz.func260.trans (congrArg some (by kernel_rfl)),f295:=Tryz.func261.trans (congrArg some (by kernel_rfl)),f296:=Tryz.func262.trans (congrArg some (by kernel_rfl)),f297:=Tryz.func263.trans (congrArg some (by kernel_rfl)),f298:=Tryz.func264.trans (congrArg some (by kernel_rfl)),f299:=Tryz.func265.trans (congrArg some (by kernel_rfl)),f300:=Tryz.func266.trans (congrArg some (by kernel_rfl)),f301:=Tryz.func267.trans (congrArg some (by kernel_rfl)),f328:=Tryz.func287.trans (congrArg some (by kernel_rfl)),f329:=Tryz.func288.trans (congrArg some (by kernel_rfl)),f330:=Tryz.func289.trans (congrArg some (by kernel_rfl)),f331:=Tryz.func290.trans (congrArg some (by kernel_rfl)),f332:=Tryz.func291.trans (congrArg some (by kernel_rfl)),f343:=Tryz.func298.trans (congrArg some (by kernel_rfl)),t0:=Tryz.underlying0,a0:=Tryz.isAgg0,z0:=Tryz.sizeOf0,v0:=Tryz.zeroValue0,t3:=Tryz.underlying3,a3:=Tryz.isAgg3,z3:=Tryz.sizeOf3,v3:=Tryz.zeroValue3,t4:=Tryz.underlying4,a4:=Tryz.isAgg4,z4:=Tryz.sizeOf4,v4:=Tryz.zeroValue4,t5:=Tryz.underlying5,a5:=Tryz.isAgg5,z5:=Tryz.sizeOf5,v5:=Tryz.zeroValue5,t9:=Tryz.underlying9,a9:=Tryz.isAgg9,z9:=Tryz.sizeOf9,v9:=Tryz.zeroValue9,t28:=Tryz.underlying26,a28:=Tryz.isAgg26,z28:=Tryz.sizeOf26,v28:=Tryz.zeroValue26,t46:=Tryz.underlying187,a46:=Tryz.isAgg187,z46:=Tryz.sizeOf187,v46:=Tryz.zeroValue187,t51:=Tryz.underlying228,a51:=Tryz.isAgg228,z51:=Tryz.sizeOf228,v51:=Tryz.zeroValue228,t53:=Tryz.underlying230,a53:=Tryz.isAgg230,z53:=Tryz.sizeOf230,v53:=Tryz.zeroValue230,t131:=Tryz.underlying128,a131:=Tryz.isAgg128,z131:=Tryz.sizeOf128,v131:=Tryz.zeroValue128,t182:=Tryz.underlying221,a182:=Tryz.isAgg221,z182:=Tryz.sizeOf221,v182:=Tryz.zeroValue221,t183:=Tryz.underlying222,a183:=Tryz.isAgg222,z183:=Tryz.sizeOf222,v183:=Tryz.zeroValue222,t218:=Tryz.underlying240,a218:=Tryz.isAgg240,z218:=Tryz.sizeOf240,v218:=Tryz.zeroValue240,t222:=Tryz.underlying244,a222:=Tryz.isAgg244,z222:=Tryz.sizeOf244,v222:=Tryz.zeroValue244,t228:=Tryz.underlying249,a228:=Tryz.isAgg249,z228:=Tryz.sizeOf249,v228:=Tryz.zeroValue249,t229:=Tryz.underlying250,a229:=Tryz.isAgg250,z229:=Tryz.sizeOf250,v229:=Tryz.zeroValue250 }
def Tryz.laysNm220_ren:Go.Shelf.Ren:=⟨fun | 20=>162 | n=>n,fun | 22=>26 | 3=>3 | 4=>4 | 0=>0 | n=>n,fun | n=>n⟩
theorem Tryz.laysNm220:Go.Proofs.Lays2.n20 Tryz.prog Tryz.laysNm220_ren:={ mixed:=by kernel_rfl,f20:=Tryz.func162.trans (congrArg some (by kernel_rfl)),t0:=Tryz.underlying0,a0:=Tryz.isAgg0,z0:=Tryz.sizeOf0,v0:=Tryz.zeroValue0,t3:=Tryz.underlying3,a3:=Tryz.isAgg3,z3:=Tryz.sizeOf3,v3:=Tryz.zeroValue3,t4:=Tryz.underlying4,a4:=Tryz.isAgg4,z4:=Tryz.sizeOf4,v4:=Tryz.zeroValue4,t22:=Tryz.underlying26,a22:=Tryz.isAgg26,z22:=Tryz.sizeOf26,v22:=Tryz.zeroValue26,i3:=by kernel_rfl }
def Tryz.laysNm215_ren:Go.Shelf.Ren:=⟨fun | 15=>163 | n=>n,fun | 22=>26 | 3=>3 | 4=>4 | n=>n,fun | n=>n⟩
theorem Tryz.laysNm215:Go.Proofs.Lays2.n15 Tryz.prog Tryz.laysNm215_ren:={ mixed:=by kernel_rfl,f15:=Tryz.func163.trans (congrArg some (by kernel_rfl)),t3:=Tryz.underlying3,a3:=Tryz.isAgg3,z3:=Tryz.sizeOf3,v3:=Tryz.zeroValue3,t4:=Tryz.underlying4,a4:=Tryz.isAgg4,z4:=Tryz.sizeOf4,v4:=Tryz.zeroValue4,t22:=Tryz.underlying26,a22:=Tryz.isAgg26,z22:=Tryz.sizeOf26,v22:=Tryz.zeroValue26,i3:=by kernel_rfl }
def Tryz.growI_ren:Go.Shelf.Ren:=⟨fun | 4=>233 | n=>n,fun | 22=>26 | 25=>3 | 3=>3 | 4=>4 | 9=>9 | 20=>20 | 0=>0 | n=>n,fun | n=>n⟩
theorem Tryz.growI:Go.Proofs.Lays8.n4 Tryz.prog Tryz.growI_ren:={ mixed:=by kernel_rfl,f4:=⟨Tryz.f233.name,by decide,Tryz.func233.trans (congrArg some (by kernel_rfl))⟩,t0:=Tryz.underlying0,a0:=Tryz.isAgg0,z0:=Tryz.sizeOf0,v0:=Tryz.zeroValue0,t3:=Tryz.underlying3,a3:=Tryz.isAgg3,z3:=Tryz.sizeOf3,v3:=Tryz.zeroValue3,t4:=Tryz.underlying4,a4:=Tryz.isAgg4,z4:=Tryz.sizeOf4,v4:=Tryz.zeroValue4,t9:=Tryz.underlying9,a9:=Tryz.isAgg9,z9:=Tryz.sizeOf9,v9:=Tryz.zeroValue9,t20:=Tryz.underlying20,a20:=Tryz.isAgg20,z20:=Tryz.sizeOf20,v20:=Tryz.zeroValue20,t22:=Tryz.underlying26,a22:=Tryz.isAgg26,z22:=Tryz.sizeOf26,v22:=Tryz.zeroValue26 }
end Go.Proofs
end
