/-
 Texts of the proof,put together: part 4.
-/
import Derived.Test.YtecefnhhlaolmaaJB1
import Derived.Test.YtecefnhhlaolmaaJB2
import Derived.Test.YtecefnhhlaolmaaJB3
import Derived.Test.YtecefnhhlaolmaaProg
import Derived.WalkKit
import Derived.ProofKit
import Derived.Shelf.RegionOpenPlain
import Derived.Deep.RegionLaw
import Derived.Deep.LoopGhost
import Derived.Lib.SliceRun
import Derived.Lib.AppendZerosOnto
import Derived.Lib.Hide
import Derived.Laws.IdiomCopy
import Derived.OwnWalk
import Derived.Shelf.Spec.SlicesInsert
import Derived.Lib.SlicesCompact
import Derived.Lib.RowBridge
import Derived.Deep.Slices
import Derived.Deep.Fields
import Derived.OpenShut
set_option linter.unusedSimpArgs false
set_option linter.unusedVariables false
set_option linter.unusedSectionVars false
namespace Go.Proofs.Ytecefnhhlaolmaa
set_option maxRecDepth 4096
abbrev i_CoordOkT:FuncId→List T→Option (T × Bool):=find [i_recOkE,cofKE,i_fromE,coIE]
theorem i_CoordOkT_ok:CallOk Try.prog i_CoordOkT:=find_ok (fC ⟨i_recOk_ok,fC ⟨cofK_ok,fC ⟨i_from_ok,fC ⟨coI_ok,fN⟩⟩⟩⟩)
abbrev i_CoordOkK:List Nat:= [0,1,2,3,4,5,6,7,11,13,14,15,16,37,40,45,46,47,48,75]
noncomputable def i_CoordOkL0 (N:Nat) (p:List D):List D→Out:=loopOf Try.prog i_CoordOkT N i_CoordOkK Try.f19 rb [⟨ag rICoord,p⟩] 0
noncomputable def i_CoordOkL2 (N:Nat) (p:List D):List D→Out:=loopOf Try.prog i_CoordOkT N i_CoordOkK Try.f19 rb [⟨ag rICoord,p⟩] 2
theorem i_CoordOkR0 (N:Nat) (p:List D) (x0 x1 x2 x3 x4 x5 x6 x7 x8 x9 x10:D):(i_CoordOkL0 N p) [x0,x1,x2,x3,x4,x5,x6,x7,x8,x9,x10] =
 bif ltI x8.int x7.int then nd (inRange x8.int x6.rows.length) (bif (gd (x6.rows.getD x8.int.toNat []) 0).int != (w64 (x8.int+1)) then ob false
 else bif !(recOk (sub (x6.rows.getD x8.int.toNat []) 0 5)) then ob false
 else nd (leI 0 0&&leI 0 x8.int&&leI x8.int (x9.rows.length:Int)) (bif anyS (fun r=>ixfKC (.l [[.l [sub (x6.rows.getD x8.int.toNat []) 0 5]]]) (sub r 0 5)) (.l (x9.rows.take x8.int.toNat)) then ob false
 else bif (gd (x6.rows.getD x8.int.toNat []) 3).int==3 then nx [x0,x1,x2,x3,x4,.i (w64 (x5.int+1)),x6,x7,.i (w64 (x8.int+1)),x9,x10]
 else nx [x0,x1,x2,x3,x4,x5,x6,x7,.i (w64 (x8.int+1)),x9,x10]))
 else ex 0 [x0,x1,x2,x3,x4,x5,x6,x7,x8,x9,x10]:=by kernel_rfl
theorem i_CoordOkR2 (N:Nat) (p:List D) (x0 x1 x2 x3 x4 x5 x6 x7 x8 x9 x10 x11 x12 x13:D):(i_CoordOkL2 N p) [x0,x1,x2,x3,x4,x5,x6,x7,x8,x9,x10,x11,x12,x13] =
 bif ltI x11.int x10.int then nd (inRange x11.int x9.rows.length) (bif !(inB (gd (x9.rows.getD x11.int.toNat []) 0).int 1 (x12.rows.length:Int)) then ob false
 else nd (inRange (w64 ((gd (x9.rows.getD x11.int.toNat []) 0).int - 1)) x12.rows.length) (bif (gd (x12.rows.getD (w64 ((gd (x9.rows.getD x11.int.toNat []) 0).int - 1)).toNat []) 3).int != 3 then ob false
 else nd (leI 0 0&&leI 0 x11.int&&leI x11.int (x13.rows.length:Int)) (bif hasInt (.l (x13.rows.take x11.int.toNat)) (gd (x9.rows.getD x11.int.toNat []) 0).int then ob false
 else nx [x0,x1,x2,x3,x4,x5,x6,x7,x8,x9,x10,.i (w64 (x11.int+1)),x12,x13])))
 else ex 2 [x0,x1,x2,x3,x4,x5,x6,x7,x8,x9,x10,x11,x12,x13]:=by kernel_rfl
theorem i_CoordOk_ev (N:Nat) (p:List D):evFn Try.prog i_CoordOkT N i_CoordOkK Try.f19 rb [⟨ag rICoord,p⟩]=some (bo,
 bif ltI 60 ((gd p 0).rows.length:Int) then ob false
 else (let o0:=iter (i_CoordOkL0 N p) N [gd p 0,gd p 1,.i 0,.i 0,.b (ltI 60 ((gd p 0).rows.length:Int)),.i 0,gd p 0,.i ((gd p 0).rows.length:Int),.i 0,gd p 0,gd p 1]
  nd o0.isSome (bif o0.code==1 then some (1,o0.pay)
  else nd (o0.code==2) ((let o2:=iter (i_CoordOkL2 N p) N [gd o0.pay 0,gd o0.pay 1,gd o0.pay 2,gd o0.pay 3,gd o0.pay 4,gd o0.pay 5,gd o0.pay 6,gd o0.pay 7,gd o0.pay 8,gd o0.pay 10,.i ((gd o0.pay 10).rows.length:Int),.i 0,gd o0.pay 9,gd o0.pay 10]
  nd o2.isSome (bif o2.code==1 then some (1,o2.pay)
  else nd (o2.code==4) (ob ((gd o2.pay 5).int==((gd o2.pay 13).rows.length:Int))))))))):=by kernel_rfl
def recSame (a b:List D):Bool:=((gd a 1).int==(gd b 1).int)&&((gd a 2).int==(gd b 2).int)
def recAt (z:D) (k:Nat):Bool:=((gd (z.rows.getD k []) 0).int==((k+1:Nat):Int))&&(recOk (sub (z.rows.getD k []) 0 5) && !(List.range k).any fun j=>recSame (z.rows.getD j []) (z.rows.getD k []))
def isYes (z:D) (k:Nat):Bool:=(gd (z.rows.getD k []) 3).int==3
def ordAt (z o:D) (k:Nat):Bool:=inB (gd (o.rows.getD k []) 0).int 1 (z.rows.length:Int)&&(((gd (z.rows.getD ((gd (o.rows.getD k []) 0).int - 1).toNat []) 3).int==3) && !hasInt (.l (o.rows.take k)) (gd (o.rows.getD k []) 0).int)
def coordOk (p:List D):Bool:=decide ((gd p 0).rows.length≤60)&&((List.range (gd p 0).rows.length).all (recAt (gd p 0))&&((List.range (gd p 1).rows.length).all (ordAt (gd p 0) (gd p 1))&&((cnt (isYes (gd p 0)) 0 (gd p 0).rows.length:Nat):Int)==((gd p 1).rows.length:Int)))
def i_CoordOkE:Ent:=(19,e1 (ag rICoord) fun p=>(⟨rb,[.b (coordOk p)]⟩,true))
theorem i_CoordOk_ok:EntOk Try.prog i_CoordOkE:=e1_ok fun p h=>evFn_sound (N:=(gd p 0).rows.length+(gd p 1).rows.length+1) (ks:=i_CoordOkK) (key:=bo) i_CoordOkT_ok (enters Try.func19) Try.func19 fun hw=>by
 rw [i_CoordOk_ev]
 have hl1:=wt_at (hw ⟨ag rICoord,p⟩ (by simp)) (j:=1) rfl
 by_cases h60:(gd p 0).rows.length≤60
 ·rw [ltI_f (show ((gd p 0).rows.length:Int)≤60 from by omega)]
  have e0:=for_loop (L:=i_CoordOkL0 ((gd p 0).rows.length+(gd p 1).rows.length+1) p) (fun k => [gd p 0,gd p 1,.i 0,.i 0,.b false,.i (cnt (isYes (gd p 0)) 0 k:Nat),gd p 0,.i ((gd p 0).rows.length:Int),.i (k:Int),gd p 0,gd p 1]) (gd p 0).rows.length (recAt (gd p 0)) [.b false] 0 (fun k hk=>?_) ?_ (N:=(gd p 0).rows.length+(gd p 1).rows.length+1) (by omega)
  ·simp only [cnt_zero,Int.natCast_zero] at e0
   rw [cond_false,e0]
   simp only [coordOk,h60,decide_true,Bool.true_and]
   cases h1:(List.range (gd p 0).rows.length).all (recAt (gd p 0))
   ·rfl
   ·have e2:=for_loop (L:=i_CoordOkL2 ((gd p 0).rows.length+(gd p 1).rows.length+1) p) (fun k => [gd p 0,gd p 1,.i 0,.i 0,.b false,.i (cnt (isYes (gd p 0)) 0 (gd p 0).rows.length:Nat),gd p 0,.i ((gd p 0).rows.length:Int),.i ((gd p 0).rows.length:Int),gd p 1,.i ((gd p 1).rows.length:Int),.i (k:Int),gd p 0,gd p 1]) (gd p 1).rows.length (ordAt (gd p 0) (gd p 1)) [.b false] 2 (fun k hk=>?_) ?_ (N:=(gd p 0).rows.length+(gd p 1).rows.length+1) (by omega)
    ·simp only [Int.natCast_zero] at e2
     simp only [nd,cond_true,cond_false,Option.isSome_some,Out.code,Out.pay,Option.getD_some,gd_cons_zero,gd_cons_succ,Nat.reduceBEq,Nat.reduceAdd,int_i,bool_b,str_s,rows_l,Bool.not_true,Bool.not_false,beq_self_eq_true]
     rw [e2]
     cases h2:(List.range (gd p 1).rows.length).all (ordAt (gd p 0) (gd p 1)) <;> rfl
    ·show i_CoordOkL2 _ p [_,_,_,_,_,_,_,_,_,_,_,.i (k:Int),_,_]=_
     rw [i_CoordOkR2]
     simp only [int_i,c_lt hk,nd_ix hk,w64_succ hk hl1,Int.toNat_natCast,nd_take (Nat.le_of_lt hk),bne_not,ordAt]
     cases hb:inB (gd ((gd p 1).rows.getD k []) 0).int 1 ((gd p 0).rows.length:Int)
     ·rfl
     ·have hb':=hb
      simp only [inB,Bool.and_eq_true,decide_eq_true_eq] at hb'
      obtain ⟨m,hm⟩:∃ m:Nat,(gd ((gd p 1).rows.getD k []) 0).int=((m+1:Nat):Int):=⟨((gd ((gd p 1).rows.getD k []) 0).int - 1).toNat,by omega⟩
      rw [hm] at hb' ⊢
      rw [show w64 (((m+1:Nat):Int) - 1)=(m:Int) from by rw [w64_id (by omega) (by omega)]; omega,show ((m+1:Nat):Int) - 1=(m:Int) from by omega,nd_ix (show m<(gd p 0).rows.length from by omega),Int.toNat_natCast]
      cases (gd ((gd p 0).rows.getD m []) 3).int==3 <;> cases hasInt (.l ((gd p 1).rows.take k)) ((m+1:Nat):Int) <;> rfl
    ·show i_CoordOkL2 _ p [_,_,_,_,_,_,_,_,_,_,_,.i ((gd p 1).rows.length:Int),_,_]=_
     rw [i_CoordOkR2]
     simp only [int_i,c_nlt]
  ·show i_CoordOkL0 _ p [_,_,_,_,_,_,_,_,.i (k:Int),_,_]=_
   rw [i_CoordOkR0]
   simp only [int_i,c_lt hk,nd_ix hk,w64_succ hk (show (gd p 0).rows.length≤9223372036854775807 from by omega),Int.toNat_natCast,nd_take (Nat.le_of_lt hk),bne_not,recAt,anyS_take (Nat.le_of_lt hk),cnt_succ,Nat.zero_add]
   have hc:=cnt_le (isYes (gd p 0)) k 0
   rw [w64_id (x:=(cnt (isYes (gd p 0)) 0 k:Int)+1) (by omega) (by omega)]
   rw [show ((List.range k).any fun j=>ixfKC (.l [[.l [sub ((gd p 0).rows.getD k []) 0 5]]]) (sub ((gd p 0).rows.getD j []) 0 5))=(List.range k).any fun j=>recSame ((gd p 0).rows.getD j []) ((gd p 0).rows.getD k []) from rfl]
   cases (gd ((gd p 0).rows.getD k []) 0).int==((k+1:Nat):Int)
   ·rfl
   cases recOk (sub ((gd p 0).rows.getD k []) 0 5)
   ·rfl
   cases (List.range k).any fun j=>recSame ((gd p 0).rows.getD j []) ((gd p 0).rows.getD k [])
   ·rw [show ((gd ((gd p 0).rows.getD k []) 3).int==3)=isYes (gd p 0) k from rfl]
    cases isYes (gd p 0) k <;> rfl
   ·rfl
  ·show i_CoordOkL0 _ p [_,_,_,_,_,_,_,.i ((gd p 0).rows.length:Int),.i ((gd p 0).rows.length:Int),_,_]=_
   rw [i_CoordOkR0]
   simp only [int_i,c_nlt]
 ·rw [ltI_t (show (60:Int)<((gd p 0).rows.length:Int) from by omega)]
  simp only [coordOk,h60,decide_false,Bool.false_and]
  rfl
abbrev s_CoordOkT:FuncId→List T→Option (T × Bool):=find [s_l14RecOkE,s_l1InE,s_l12HasE]
theorem s_CoordOkT_ok:CallOk Try.prog s_CoordOkT:=find_ok (fC ⟨s_l14RecOk_ok,fC ⟨s_l1In_ok,fC ⟨s_l12Has_ok,fN⟩⟩⟩)
abbrev s_CoordOkK:List Nat:= [0,1,2,3,4,5,6,7,8,18,23,40,43,65,68,75,106]
noncomputable def s_CoordOkL0 (N:Nat) (p:List D):List D→Out:=loopOf Try.prog s_CoordOkT N s_CoordOkK Try.f15 rb [⟨ag rICoord,p⟩] 0
noncomputable def s_CoordOkL2 (N:Nat) (p:List D):List D→Out:=loopOf Try.prog s_CoordOkT N s_CoordOkK Try.f15 rb [⟨ag rICoord,p⟩] 2
noncomputable def s_CoordOkL4 (N:Nat) (p:List D):List D→Out:=loopOf Try.prog s_CoordOkT N s_CoordOkK Try.f15 rb [⟨ag rICoord,p⟩] 4
theorem s_CoordOkR0 (N:Nat) (p:List D) (x0 x1 x2 x3 x4 x5 x6 x7 x8:D):(s_CoordOkL0 N p) [x0,x1,x2,x3,x4,x5,x6,x7,x8] =
 bif ltI x6.int (x7.rows.length:Int) then nd (inRange x6.int x7.rows.length) (bif (gd (x7.rows.getD x6.int.toNat []) 0).int != (w64 (x6.int+1)) then ob false
 else bif !(recOk (sub (x7.rows.getD x6.int.toNat []) 0 5)) then ob false
 else (let o2:=iter (s_CoordOkL2 N p) N [x0,x1,x2,x3,x4,x5,x6,.b (ltI x6.int (x7.rows.length:Int)),.i 0,.b (!(recOk (sub (x7.rows.getD x6.int.toNat []) 0 5))),.i 0,x7,x8,gd (x7.rows.getD x6.int.toNat []) 0,gd (x7.rows.getD x6.int.toNat []) 1,gd (x7.rows.getD x6.int.toNat []) 2,gd (x7.rows.getD x6.int.toNat []) 3,gd (x7.rows.getD x6.int.toNat []) 4]
  nd o2.isSome (bif o2.code==1 then some (1,o2.pay)
  else nd (o2.code==4) (bif (gd o2.pay 16).int==3 then nx [gd o2.pay 0,gd o2.pay 1,gd o2.pay 2,gd o2.pay 3,gd o2.pay 4,.i (w64 ((gd o2.pay 5).int+1)),.i (w64 ((gd o2.pay 6).int+1)),gd o2.pay 11,gd o2.pay 12]
  else nx [gd o2.pay 0,gd o2.pay 1,gd o2.pay 2,gd o2.pay 3,gd o2.pay 4,gd o2.pay 5,.i (w64 ((gd o2.pay 6).int+1)),gd o2.pay 11,gd o2.pay 12]))))
 else ex 0 [x0,x1,x2,x3,x4,x5,x6,x7,x8]:=by kernel_rfl
theorem s_CoordOkR2 (N:Nat) (p:List D) (x0 x1 x2 x3 x4 x5 x6 x7 x8 x9 x10 x11 x12 x13 x14 x15 x16 x17:D):(s_CoordOkL2 N p) [x0,x1,x2,x3,x4,x5,x6,x7,x8,x9,x10,x11,x12,x13,x14,x15,x16,x17] =
 bif ltI x10.int x6.int then nd (inRange x10.int x11.rows.length) (bif (gd (x11.rows.getD x10.int.toNat []) 1).int==x14.int then nd (inRange x10.int x11.rows.length) (bif (gd (x11.rows.getD x10.int.toNat []) 2).int==x15.int then ob false
 else nx [x0,x1,x2,x3,x4,x5,x6,x7,x8,x9,.i (w64 (x10.int+1)),x11,x12,x13,x14,x15,x16,x17])
 else nx [x0,x1,x2,x3,x4,x5,x6,x7,x8,x9,.i (w64 (x10.int+1)),x11,x12,x13,x14,x15,x16,x17])
 else ex 2 [x0,x1,x2,x3,x4,x5,x6,x7,x8,x9,x10,x11,x12,x13,x14,x15,x16,x17]:=by kernel_rfl
theorem s_CoordOkR4 (N:Nat) (p:List D) (x0 x1 x2 x3 x4 x5 x6 x7 x8 x9:D):(s_CoordOkL4 N p) [x0,x1,x2,x3,x4,x5,x6,x7,x8,x9] =
 bif ltI x7.int (x9.rows.length:Int) then nd (inRange x7.int x9.rows.length) (bif !(inB (gd (x9.rows.getD x7.int.toNat []) 0).int 1 (x8.rows.length:Int)) then ob false
 else nd (inRange (w64 ((gd (x9.rows.getD x7.int.toNat []) 0).int - 1)) x8.rows.length) (bif (gd (x8.rows.getD (w64 ((gd (x9.rows.getD x7.int.toNat []) 0).int - 1)).toNat []) 3).int != 3 then ob false
 else nd (leI 0 0&&leI 0 x7.int&&leI x7.int (x9.rows.length:Int)) (bif hasInt (.l (x9.rows.take x7.int.toNat)) (gd (x9.rows.getD x7.int.toNat []) 0).int then ob false
 else nx [x0,x1,x2,x3,x4,x5,x6,.i (w64 (x7.int+1)),x8,x9])))
 else ex 4 [x0,x1,x2,x3,x4,x5,x6,x7,x8,x9]:=by kernel_rfl
theorem s_CoordOk_ev (N:Nat) (p:List D):evFn Try.prog s_CoordOkT N s_CoordOkK Try.f15 rb [⟨ag rICoord,p⟩]=some (bo,
 bif ltI 60 ((gd p 0).rows.length:Int) then ob false
 else bif ltI 60 ((gd p 1).rows.length:Int) then ob false
 else (let o0:=iter (s_CoordOkL0 N p) N [gd p 0,gd p 1,.i 0,.i 0,.b (ltI 60 ((gd p 1).rows.length:Int)),.i 0,.i 0,gd p 0,gd p 1]
  nd o0.isSome (bif o0.code==1 then some (1,o0.pay)
  else nd (o0.code==2) ((let o4:=iter (s_CoordOkL4 N p) N [gd o0.pay 0,gd o0.pay 1,gd o0.pay 2,gd o0.pay 3,gd o0.pay 4,gd o0.pay 5,gd o0.pay 6,.i 0,gd o0.pay 7,gd o0.pay 8]
  nd o4.isSome (bif o4.code==1 then some (1,o4.pay)
  else nd (o4.code==6) (ob ((gd o4.pay 5).int==((gd o4.pay 9).rows.length:Int))))))))):=by kernel_rfl
theorem not_any {n:Nat} {C:Nat→Bool}:((List.range n).all fun k => !C k) = !(List.range n).any C:=by simp [List.all_eq_not_any_not]
theorem s_CoordOkU (N:Nat) (p:List D) (hN:(gd p 0).rows.length<N) (hl:(gd p 0).rows.length≤60) (y:D) (k:Nat) (hk:k<(gd p 0).rows.length) :
  iter (s_CoordOkL2 N p) N [gd p 0,gd p 1,.i 0,.i 0,.b false,y,.i (k:Int),.b true,.i 0,.b false,.i 0,gd p 0,gd p 1,gd ((gd p 0).rows.getD k []) 0,gd ((gd p 0).rows.getD k []) 1,gd ((gd p 0).rows.getD k []) 2,gd ((gd p 0).rows.getD k []) 3,gd ((gd p 0).rows.getD k []) 4] =
  some (bif (List.range k).any (fun j=>recSame ((gd p 0).rows.getD j []) ((gd p 0).rows.getD k [])) then (1,[.b false]) else (4,[gd p 0,gd p 1,.i 0,.i 0,.b false,y,.i (k:Int),.b true,.i 0,.b false,.i (k:Int),gd p 0,gd p 1,gd ((gd p 0).rows.getD k []) 0,gd ((gd p 0).rows.getD k []) 1,gd ((gd p 0).rows.getD k []) 2,gd ((gd p 0).rows.getD k []) 3,gd ((gd p 0).rows.getD k []) 4])):=by
 have e:=for_loop (L:=s_CoordOkL2 N p) (fun j => [gd p 0,gd p 1,.i 0,.i 0,.b false,y,.i (k:Int),.b true,.i 0,.b false,.i (j:Int),gd p 0,gd p 1,gd ((gd p 0).rows.getD k []) 0,gd ((gd p 0).rows.getD k []) 1,gd ((gd p 0).rows.getD k []) 2,gd ((gd p 0).rows.getD k []) 3,gd ((gd p 0).rows.getD k []) 4]) k (fun j => !recSame ((gd p 0).rows.getD j []) ((gd p 0).rows.getD k [])) [.b false] 2 (fun j hj=>?_) ?_ (N:=N) (by omega)
 ·simp only [Int.natCast_zero,not_any] at e
  rw [e]
  cases (List.range k).any (fun j=>recSame ((gd p 0).rows.getD j []) ((gd p 0).rows.getD k [])) <;> rfl
 ·show s_CoordOkL2 N p [_,_,_,_,_,_,.i (k:Int),_,_,_,.i (j:Int),_,_,_,_,_,_,_]=_
  rw [s_CoordOkR2]
  simp only [int_i,c_lt hj,nd_ix (Nat.lt_trans hj hk),w64_succ hj (show k≤9223372036854775807 from by omega),Int.toNat_natCast,recSame]
  cases (gd ((gd p 0).rows.getD j []) 1).int==(gd ((gd p 0).rows.getD k []) 1).int <;> cases (gd ((gd p 0).rows.getD j []) 2).int==(gd ((gd p 0).rows.getD k []) 2).int <;> rfl
 ·show s_CoordOkL2 N p [_,_,_,_,_,_,.i (k:Int),_,_,_,.i (k:Int),_,_,_,_,_,_,_]=_
  rw [s_CoordOkR2]
  simp only [int_i,c_nlt]
def s_CoordOkE:Ent:=(15,e1 (ag rICoord) fun p=>(⟨rb,[.b (coordOk p)]⟩,true))
theorem s_CoordOk_ok:EntOk Try.prog s_CoordOkE:=e1_ok fun p h=>evFn_sound (N:=(gd p 0).rows.length+(gd p 1).rows.length+1) (ks:=s_CoordOkK) (key:=bo) s_CoordOkT_ok (enters Try.func15) Try.func15 fun hw=>by
 rw [s_CoordOk_ev]
 have hl1:=wt_at (hw ⟨ag rICoord,p⟩ (by simp)) (j:=1) rfl
 by_cases h60:(gd p 0).rows.length≤60
 ·rw [ltI_f (show ((gd p 0).rows.length:Int)≤60 from by omega),cond_false]
  by_cases h61:(gd p 1).rows.length≤60
  ·rw [ltI_f (show ((gd p 1).rows.length:Int)≤60 from by omega),cond_false]
   have e0:=for_loop (L:=s_CoordOkL0 ((gd p 0).rows.length+(gd p 1).rows.length+1) p) (fun k => [gd p 0,gd p 1,.i 0,.i 0,.b false,.i (cnt (isYes (gd p 0)) 0 k:Nat),.i (k:Int),gd p 0,gd p 1]) (gd p 0).rows.length (recAt (gd p 0)) [.b false] 0 (fun k hk=>?_) ?_ (N:=(gd p 0).rows.length+(gd p 1).rows.length+1) (by omega)
   ·simp only [cnt_zero,Int.natCast_zero] at e0
    rw [e0]
    simp only [coordOk,h60,decide_true,Bool.true_and]
    cases h1:(List.range (gd p 0).rows.length).all (recAt (gd p 0))
    ·rfl
    ·have e2:=for_loop (L:=s_CoordOkL4 ((gd p 0).rows.length+(gd p 1).rows.length+1) p) (fun k => [gd p 0,gd p 1,.i 0,.i 0,.b false,.i (cnt (isYes (gd p 0)) 0 (gd p 0).rows.length:Nat),.i ((gd p 0).rows.length:Int),.i (k:Int),gd p 0,gd p 1]) (gd p 1).rows.length (ordAt (gd p 0) (gd p 1)) [.b false] 4 (fun k hk=>?_) ?_ (N:=(gd p 0).rows.length+(gd p 1).rows.length+1) (by omega)
     ·simp only [Int.natCast_zero] at e2
      simp only [nd,cond_true,cond_false,Option.isSome_some,Out.code,Out.pay,Option.getD_some,gd_cons_zero,gd_cons_succ,Nat.reduceBEq,Nat.reduceAdd,int_i,bool_b,str_s,rows_l,Bool.not_true,Bool.not_false,beq_self_eq_true]
      rw [e2]
      cases h2:(List.range (gd p 1).rows.length).all (ordAt (gd p 0) (gd p 1)) <;> rfl
     ·show s_CoordOkL4 _ p [_,_,_,_,_,_,_,.i (k:Int),_,_]=_
      rw [s_CoordOkR4]
      simp only [int_i,c_lt hk,nd_ix hk,w64_succ hk hl1,Int.toNat_natCast,nd_take (Nat.le_of_lt hk),bne_not,ordAt]
      cases hb:inB (gd ((gd p 1).rows.getD k []) 0).int 1 ((gd p 0).rows.length:Int)
      ·rfl
      ·have hb':=hb
       simp only [inB,Bool.and_eq_true,decide_eq_true_eq] at hb'
       obtain ⟨m,hm⟩:∃ m:Nat,(gd ((gd p 1).rows.getD k []) 0).int=((m+1:Nat):Int):=⟨((gd ((gd p 1).rows.getD k []) 0).int - 1).toNat,by omega⟩
       rw [hm] at hb' ⊢
       rw [show w64 (((m+1:Nat):Int) - 1)=(m:Int) from by rw [w64_id (by omega) (by omega)]; omega,show ((m+1:Nat):Int) - 1=(m:Int) from by omega,nd_ix (show m<(gd p 0).rows.length from by omega),Int.toNat_natCast]
       cases (gd ((gd p 0).rows.getD m []) 3).int==3 <;> cases hasInt (.l ((gd p 1).rows.take k)) ((m+1:Nat):Int) <;> rfl
     ·show s_CoordOkL4 _ p [_,_,_,_,_,_,_,.i ((gd p 1).rows.length:Int),_,_]=_
      rw [s_CoordOkR4]
      simp only [int_i,c_nlt]
   ·show s_CoordOkL0 _ p [_,_,_,_,_,_,.i (k:Int),_,_]=_
    rw [s_CoordOkR0]
    simp only [int_i,ltI_nat hk,nd_ix hk,w64_succ hk (show (gd p 0).rows.length≤9223372036854775807 from by omega),Int.toNat_natCast,bne_not,recAt,cnt_succ,Nat.zero_add]
    have hc:=cnt_le (isYes (gd p 0)) k 0
    cases (gd ((gd p 0).rows.getD k []) 0).int==((k+1:Nat):Int)
    ·rfl
    cases recOk (sub ((gd p 0).rows.getD k []) 0 5)
    ·rfl
    simp only [nd,cond_true,cond_false,Option.isSome_some,Out.code,Out.pay,Option.getD_some,gd_cons_zero,gd_cons_succ,Nat.reduceBEq,Nat.reduceAdd,int_i,bool_b,str_s,rows_l,Bool.not_true,Bool.not_false,beq_self_eq_true,Bool.true_and,s_CoordOkU ((gd p 0).rows.length+(gd p 1).rows.length+1) p (by omega) h60 _ k hk]
    cases (List.range k).any fun j=>recSame ((gd p 0).rows.getD j []) ((gd p 0).rows.getD k [])
    ·simp only [nd,cond_true,cond_false,Option.isSome_some,Out.code,Out.pay,Option.getD_some,gd_cons_zero,gd_cons_succ,Nat.reduceBEq,Nat.reduceAdd,int_i,bool_b,str_s,rows_l,Bool.not_true,Bool.not_false,beq_self_eq_true,Bool.true_and,show ((gd ((gd p 0).rows.getD k []) 3).int==3)=isYes (gd p 0) k from rfl,w64_id (x:=(cnt (isYes (gd p 0)) 0 k:Int)+1) (by omega) (by omega),w64_succ hk (show (gd p 0).rows.length≤9223372036854775807 from by omega)]
     cases isYes (gd p 0) k <;> rfl
    ·rfl
   ·show s_CoordOkL0 _ p [_,_,_,_,_,_,.i ((gd p 0).rows.length:Int),_,_]=_
    rw [s_CoordOkR0]
    simp only [int_i,c_nlt]
  ·rw [ltI_t (show (60:Int)<((gd p 1).rows.length:Int) from by omega)]
   have hc:=cnt_le (isYes (gd p 0)) (gd p 0).rows.length 0
   simp only [coordOk,show (((cnt (isYes (gd p 0)) 0 (gd p 0).rows.length:Nat):Int)==((gd p 1).rows.length:Int))=false from beq_eq_false_iff_ne.2 (by omega),Bool.and_false]
   rfl
 ·rw [ltI_t (show (60:Int)<((gd p 0).rows.length:Int) from by omega)]
  simp only [coordOk,h60,decide_false,Bool.false_and]
  rfl
end Go.Proofs.Ytecefnhhlaolmaa
namespace Go.Proofs.Ytecefnhhlaolmaa
set_option maxRecDepth 4096
end Go.Proofs.Ytecefnhhlaolmaa
namespace Go.Proofs.Ytecefnhhlaolmaa
theorem total_mem {size:List D→Nat}:∀ {rows:List (List D)} {r:List D},r∈rows→size r≤total size rows
 | a::l,r,h=>by
  have e:total size (a::l)=size a+total size l:=by simp [total]
  rcases List.mem_cons.1 h with rfl | h
  ·omega
  ·have:=total_mem (size:=size) h
   omega
theorem okS {ok:List D→Bool} {size:List D→Nat} {z:D} {m:Nat} (hm:m≤4294967296) (h:z.rows.length+total size z.rows≤m) (hr:∀ r,size r≤m→ok r=true):(decide (z.rows.length≤4294967296)&&z.rows.all fun r=>ok r)=true:=by
 simp only [Bool.and_eq_true,decide_eq_true_eq,List.all_eq_true]
 exact ⟨by omega,fun r hm=>hr r (Nat.le_trans (total_mem hm) (by omega))⟩
theorem okF {ok:List D→Bool} {z:D} {m:Nat} (hm:m≤4294967296) (h:z.rows.length≤m) (hr:∀ r,ok r=true):(decide (z.rows.length≤4294967296)&&z.rows.all fun r=>ok r)=true:=by
 simp only [Bool.and_eq_true,decide_eq_true_eq,List.all_eq_true]
 exact ⟨by omega,fun r _=>hr r⟩
theorem okIntS_of {z:D} {m:Nat} (hm:m≤4294967296) (h:sizeIntS z≤m):okIntS z=true:=okF hm h fun _=>rfl
theorem okRangeS_of {z:D} {m:Nat} (hm:m≤4294967296) (h:sizeRangeS z≤m):okRangeS z=true:=okF (ok:=fun r=>okRange (sub r 0 2)) hm h fun _=>rfl
theorem okWriteS_of {z:D} {m:Nat} (hm:m≤4294967296) (h:sizeWriteS z≤m):okWriteS z=true:=okF (ok:=fun r=>okWrite (sub r 0 2)) hm h fun _=>rfl
theorem okShare_of {p:List D} {m:Nat} (hm:m≤4294967296) (h:sizeShare p≤m):okShare p=true:=by
 unfold sizeShare at h
 rw [okShare,okRangeS_of hm (show sizeRangeS (gd p 1)≤m from by omega),okWriteS_of hm (show sizeWriteS (gd p 2)≤m from by omega)]; rfl
theorem okShareS_of {z:D} {m:Nat} (hm:m≤4294967296) (h:sizeShareS z≤m):okShareS z=true:=okS (ok:=fun r=>okShare (sub r 0 4)) (size:=fun r=>sizeShare (sub r 0 4)) hm h fun _ h=>okShare_of hm h
theorem okRec_of {p:List D} {m:Nat} (hm:m≤4294967296) (h:sizeRec p≤m):okRec p=true:=okShareS_of hm h
theorem okRecS_of {z:D} {m:Nat} (hm:m≤4294967296) (h:sizeRecS z≤m):okRecS z=true:=okS (ok:=fun r=>okRec (sub r 0 5)) (size:=fun r=>sizeRec (sub r 0 5)) hm h fun _ h=>okRec_of hm h
theorem okCoord_of {p:List D} {m:Nat} (hm:m≤4294967296) (h:sizeCoord p≤m):okCoord p=true:=by
 unfold sizeCoord at h
 rw [okCoord,okRecS_of hm (show sizeRecS (gd p 0)≤m from by omega),okIntS_of hm (show sizeIntS (gd p 1)≤m from by omega)]; rfl
theorem left_ge {s:Nat} {n:Int} (h:ltI (left s n) 0=false) (h0:0≤n):left s n=n - s∧(s:Int)≤n:=by
 unfold left at h ⊢
 split
 ·exact ⟨rfl,by assumption⟩
 ·rename_i hn
  rw [if_neg hn] at h
  cases h
end Go.Proofs.Ytecefnhhlaolmaa
namespace Go.Proofs.Ytecefnhhlaolmaa
set_option maxRecDepth 4096
end Go.Proofs.Ytecefnhhlaolmaa
namespace Go.Proofs.Ytecefnhhlaolmaa
set_option maxRecDepth 4096
end Go.Proofs.Ytecefnhhlaolmaa
namespace Go.Proofs.Ytecefnhhlaolmaa
set_option maxRecDepth 4096
end Go.Proofs.Ytecefnhhlaolmaa
namespace Go.Proofs.Ytecefnhhlaolmaa
set_option maxRecDepth 4096
end Go.Proofs.Ytecefnhhlaolmaa
namespace Go.Proofs.Ytecefnhhlaolmaa
set_option maxRecDepth 4096
end Go.Proofs.Ytecefnhhlaolmaa
namespace Go.Proofs.Ytecefnhhlaolmaa
set_option maxRecDepth 4096
end Go.Proofs.Ytecefnhhlaolmaa
namespace Go.Proofs.Ytecefnhhlaolmaa
set_option maxRecDepth 4096
def s_RangeInF (p q:List D):Bool:=
 bif rangeOk (sub p 0 2) then bif rangeOk (sub q 0 2) then bif leI (gd q 0).int (gd p 0).int then leI (gd p 1).int (gd q 1).int
 else false
 else false
 else false
end Go.Proofs.Ytecefnhhlaolmaa
namespace Go.Proofs.Ytecefnhhlaolmaa
set_option maxRecDepth 4096
end Go.Proofs.Ytecefnhhlaolmaa
namespace Go.Proofs.Ytecefnhhlaolmaa
set_option maxRecDepth 4096
def storeAt (z:D):Nat→Bool
 | 0=>inB (gd (z.rows.getD 0 []) 0).int 0 999&&inB (gd (z.rows.getD 0 []) 1).int 0 1000000000
 | k+1=>inB (gd (z.rows.getD (k+1) []) 0).int 0 999&&(inB (gd (z.rows.getD (k+1) []) 1).int 0 1000000000 && !leI (gd (z.rows.getD (k+1) []) 0).int (gd (z.rows.getD k []) 0).int)
end Go.Proofs.Ytecefnhhlaolmaa
namespace Go.Proofs.Ytecefnhhlaolmaa
set_option maxRecDepth 4096
theorem run_loop {L:List D→Out} (st:Nat→List D) (n:Nat) (j:Nat) (h1:∀ k,k<n→L (st k)=some (0,st (k+1))) (h2:L (st n)=some (j+2,st n)) {N:Nat} (hN:n<N) :
  iter L N (st 0)=some (j+2,st n):=by
 have e:=for_loop (L:=L) st n (fun _=>true) [] j (fun k hk=>h1 k hk) h2 hN
 rw [e,show (List.range n).all (fun _=>true)=true from by simp]; rfl
end Go.Proofs.Ytecefnhhlaolmaa
namespace Go.Proofs.Ytecefnhhlaolmaa
set_option maxRecDepth 4096
def still (a b c d:Int) (n:Nat):Bool:=(a==0)&&((b==0)&&((c==0)&&((d==0)&&((n:Int)==0))))
end Go.Proofs.Ytecefnhhlaolmaa
namespace Go.Proofs.Ytecefnhhlaolmaa
set_option maxRecDepth 4096
set_option maxHeartbeats 1000000
def holdS (r:List D) (tx:D) (a:List D) (mode:D):Bool:=((gd r 0).int==tx.int)&&(s_RangeInF a [gd r 1,gd r 2]&&leI mode.int (gd r 3).int)
def holds (z tx:D) (a:List D) (mode:D):Bool:=(List.range z.rows.length).any fun k=>holdS (z.rows.getD k []) tx a mode
end Go.Proofs.Ytecefnhhlaolmaa
namespace Go.Proofs.Ytecefnhhlaolmaa
set_option maxRecDepth 4096
set_option maxHeartbeats 1000000
abbrev i_cellFor_1T:FuncId→List T→Option (T × Bool):=find []
theorem i_cellFor_1T_ok:CallOk Try.prog i_cellFor_1T:=find_ok (fN)
abbrev i_cellFor_1K:List Nat:= [0,1,2,4]
theorem i_cellFor_1_ev (N:Nat) (p q:List D):evFn Try.prog i_cellFor_1T N i_cellFor_1K Try.f70 ri [⟨ag rICell,p⟩,⟨ri,q⟩]=some (bo,
 oi (w64 ((gd p 0).int - (gd q 0).int))):=by kernel_rfl
def i_cellFor_1E:Ent:=(70,e2 (ag rICell) ri fun p q=>(⟨ri,[.i (w64 ((gd p 0).int - (gd q 0).int))]⟩,true))
theorem i_cellFor_1_ok:EntOk Try.prog i_cellFor_1E:=e2_ok fun p q h=>evFn_sound (N:=0) (ks:=i_cellFor_1K) (key:=bo) i_cellFor_1T_ok (enters Try.func70) Try.func70 fun hw=>by
 rw [i_cellFor_1_ev]
 skip
def keyAt (z:D) (k:Nat):Int:=(gd (z.rows.getD k []) 0).int
def lowN (z:D) (t:Int):Nat:=cnt (fun k=>ltI (keyAt z k) t) 0 z.rows.length
def bsB (z:D) (t:Int):Bool:=ltI (lowN z t:Int) (z.rows.length:Int)&&(keyAt z (lowN z t)==t)
theorem cnt_add (C:Nat→Bool):∀ b k a,cnt C k (a+b)=cnt C k a+cnt C (k+a) b
 | 0,k,a=>rfl
 | b+1,k,a=>by
  rw [← Nat.add_assoc,cnt_succ,cnt_succ,cnt_add C b k a,Nat.add_assoc,Nat.add_assoc]
theorem cnt_yes {C:Nat→Bool}:∀ m k,(∀ j,j<m→C (k+j)=true)→cnt C k m=m
 | 0,_,_=>rfl
 | m+1,k,h=>by rw [cnt_succ,cnt_yes m k (fun j hj=>h j (by omega)),h m (by omega)]; rfl
theorem cnt_no {C:Nat→Bool}:∀ m k,(∀ j,j<m→C (k+j)=false)→cnt C k m=0
 | 0,_,_=>rfl
 | m+1,k,h=>by rw [cnt_succ,cnt_no m k (fun j hj=>h j (by omega)),h m (by omega)]; rfl
theorem lowN_eq {z:D} {t:Int} {i:Nat} (hi:i≤z.rows.length) (h1:∀ k,k<i→keyAt z k<t) (h2:∀ k,i≤k→k<z.rows.length→t≤keyAt z k):lowN z t=i:=by
 unfold lowN
 obtain ⟨m,hm⟩:∃ m,z.rows.length=i+m:=⟨z.rows.length - i,by omega⟩
 rw [hm,cnt_add,cnt_yes i 0 (fun j hj=>by rw [Nat.zero_add]; exact ltI_t (h1 j hj)),cnt_no m (0+i) (fun j hj=>by rw [Nat.zero_add]; exact ltI_f (h2 (i+j) (by omega) (by omega)))]
 omega
structure Sorted (z:D):Prop where
 len:z.rows.length≤60
 key:∀ k,k<z.rows.length→0≤keyAt z k∧keyAt z k≤999
 lt:∀ i j,i<j→j<z.rows.length→keyAt z i<keyAt z j
theorem u64_id {x:Int} (h:0≤x) (h':x≤9223372036854775807):IntKind.u64.wrap x=x:=by
 simp only [IntKind.wrap,IntKind.signed,IntKind.bits]
 simp
 omega
end Go.Proofs.Ytecefnhhlaolmaa
namespace Go.Proofs.Ytecefnhhlaolmaa
set_option maxRecDepth 4096
set_option maxHeartbeats 1000000
abbrev bsWT:FuncId→List T→Option (T × Bool):=find [i_cellFor_1E]
theorem bsWT_ok:CallOk Try.prog bsWT:=find_ok (fC ⟨i_cellFor_1_ok,fN⟩)
abbrev bsWK:List Nat:= [0,1,2,6,7,8,9,10,11,17,31]
noncomputable def bsWL0 (N:Nat) (p q r:List D):List D→Out:=loopOf Try.prog bsWT N bsWK Try.f69 (.tup [.c (.d si),.c (.d (.bool))]) [⟨sd (.sl 53),p⟩,⟨ri,q⟩,⟨.one (.c (.fn 70 [])),r⟩] 0
theorem bsWR0 (N:Nat) (p q r:List D) (x0 x1 x2 x3 x4 x5 x6 x7:D):(bsWL0 N p q r) [x0,x1,x2,x3,x4,x5,x6,x7] =
 bif ltI x6.int x7.int then nd (leI 0 1) (nd (inRange (w64 ((IntKind.u64.wrap (w64 (x6.int+x7.int))).fdiv (2 ^ (min 1 64)))) x0.rows.length) (bif ltI (w64 ((gd (x0.rows.getD (w64 ((IntKind.u64.wrap (w64 (x6.int+x7.int))).fdiv (2 ^ (min 1 64)))).toNat []) 0).int - x1.int)) 0 then nx [x0,x1,x2,x3,x4,x5,.i (w64 ((w64 ((IntKind.u64.wrap (w64 (x6.int+x7.int))).fdiv (2 ^ (min 1 64))))+1)),x7]
 else nx [x0,x1,x2,x3,x4,x5,x6,.i (w64 ((IntKind.u64.wrap (w64 (x6.int+x7.int))).fdiv (2 ^ (min 1 64))))]))
 else ex 0 [x0,x1,x2,x3,x4,x5,x6,x7]:=by kernel_rfl
noncomputable def bsWs0 (N:Nat) (p q r:List D) (o0:Out):Out:=nd (inRange (gd o0.pay 6).int (gd o0.pay 0).rows.length) (some (1,[gd o0.pay 6,.b ((w64 ((gd ((gd o0.pay 0).rows.getD (gd o0.pay 6).int.toNat []) 0).int - (gd o0.pay 1).int))==0)]))
noncomputable def bsWs1 (N:Nat) (p q r:List D) (o0:Out):Out:=bif ltI (gd o0.pay 6).int (gd o0.pay 5).int then (bsWs0 N p q r o0) else some (1,[gd o0.pay 6,.b false])
noncomputable def bsWs2 (N:Nat) (p q r:List D):Out:=let o0:Out:=iter (bsWL0 N p q r) N [gd p 0,gd q 0,gd r 0,.i 0,.i 0,.i ((gd p 0).rows.length:Int),.i 0,.i ((gd p 0).rows.length:Int)]; nd o0.isSome (nd (o0.code==2) (bsWs1 N p q r o0))
theorem bsW_ev (N:Nat) (p q r:List D):evFn Try.prog bsWT N bsWK Try.f69 (.tup [.c (.d si),.c (.d (.bool))]) [⟨sd (.sl 53),p⟩,⟨ri,q⟩,⟨.one (.c (.fn 70 [])),r⟩]=some (bo,(bsWs2 N p q r)):=by kernel_rfl
structure SortedW (z:D):Prop where
 len:z.rows.length≤1000
 key:∀ k,k<z.rows.length→0≤keyAt z k∧keyAt z k≤999
 lt:∀ i j,i<j→j<z.rows.length→keyAt z i<keyAt z j
def cellsUp (z:D):Bool:=leI (z.rows.length:Int) 1000&&(List.range z.rows.length).all fun k=>inB (keyAt z k) 0 999&&(k==0||ltI (keyAt z (k - 1)) (keyAt z k))
theorem up_sorted {z:D} (h:cellsUp z=true):SortedW z:=by
 simp only [cellsUp,Bool.and_eq_true,List.all_eq_true,List.mem_range,leI,ltI,inB,decide_eq_true_eq,Bool.or_eq_true,beq_iff_eq] at h
 obtain ⟨hl,h⟩:=h
 refine ⟨by omega,fun k hk=>(h k hk).1,fun i j hij hj=>?_⟩
 obtain ⟨d,rfl⟩:∃ d,j=i+d+1:=⟨j - i - 1,by omega⟩
 have hs:∀ k,k+1<z.rows.length→keyAt z k<keyAt z (k+1):=fun k hk=>by
  rcases (h (k+1) hk).2 with h0 | h0
  ·omega
  ·simpa using h0
 clear hij
 induction d with
 | zero=>exact hs i hj
 | succ d ih=>exact Int.lt_trans (ih (by omega)) (hs (i+d+1) hj)
theorem sorted_up {z:D} (h:SortedW z):cellsUp z=true:=by
 simp only [cellsUp,Bool.and_eq_true,List.all_eq_true,List.mem_range,leI,ltI,inB,decide_eq_true_eq,Bool.or_eq_true,beq_iff_eq]
 refine ⟨by have:=h.len; omega,fun k hk=>⟨h.key k hk,?_⟩⟩
 rcases Nat.eq_zero_or_pos k with rfl | hk0
 ·exact .inl rfl
 ·exact .inr (h.lt (k - 1) k (by omega) hk)
theorem halfW {i j:Nat} (h:i+j≤100000):w64 ((IntKind.u64.wrap (w64 ((i:Int)+(j:Int)))).fdiv (2 ^ (min 1 64)))=(((i+j) / 2:Nat):Int):=by
 rw [w64_id (x:=(i:Int)+j) (by omega) (by omega),u64_id (by omega) (by omega),show ((2:Int) ^ (min 1 64))=((2:Nat):Int) from rfl,show ((i:Int)+(j:Int))=((i+j:Nat):Int) from by omega,← Int.ofNat_fdiv,w64_id (by omega) (by omega)]
theorem bs_loopW (p q r:List D) (N:Nat) (hz:SortedW (gd p 0)) (ht:inB (gd q 0).int 0 999=true):∀ (d i j M:Nat),j=i+d→j≤(gd p 0).rows.length→d<M→(∀ k,k<i→keyAt (gd p 0) k<(gd q 0).int)→(∀ k,j≤k→k<(gd p 0).rows.length→(gd q 0).int≤keyAt (gd p 0) k) →
  iter (bsWL0 N p q r) M [gd p 0,gd q 0,gd r 0,.i 0,.i 0,.i ((gd p 0).rows.length:Int),.i (i:Int),.i (j:Int)]=some (2,[gd p 0,gd q 0,gd r 0,.i 0,.i 0,.i ((gd p 0).rows.length:Int),.i (lowN (gd p 0) (gd q 0).int:Int),.i (lowN (gd p 0) (gd q 0).int:Int)]):=by
 intro d
 induction d using Nat.strongRecOn with
 | _ d ih =>
 intro i j M hj hn hM h1 h2
 have hlen:=hz.len
 simp only [inB,Bool.and_eq_true,decide_eq_true_eq] at ht
 obtain ⟨M,rfl⟩:∃ M',M=M'+1:=⟨M - 1,by omega⟩
 rw [iter,bsWR0]
 simp only [int_i]
 by_cases hd:d=0
 ·subst hd
  obtain rfl:j=i:=by omega
  rw [c_nlt,lowN_eq hn h1 h2]
  rfl
 ·rw [c_lt (show i<j from by omega)]
  have hh:(i+j) / 2<(gd p 0).rows.length:=by omega
  simp only [halfW (show i+j≤100000 from by omega),nd_ix hh,Int.toNat_natCast,show leI 0 1=true from rfl,nd_true]
  have hk:=hz.key _ hh
  rw [show (gd ((gd p 0).rows.getD ((i+j) / 2) []) 0).int=keyAt (gd p 0) ((i+j) / 2) from rfl,w64_id (x:=keyAt (gd p 0) ((i+j) / 2) - (gd q 0).int) (by omega) (by omega)]
  by_cases hc:keyAt (gd p 0) ((i+j) / 2)<(gd q 0).int
  ·rw [ltI_t (show keyAt (gd p 0) ((i+j) / 2) - (gd q 0).int<0 from by omega),cond_true]
   simp only [w64_succ hh (show (gd p 0).rows.length≤9223372036854775807 from by omega)]
   exact ih (j - ((i+j) / 2+1)) (by omega) ((i+j) / 2+1) j M (by omega) hn (by omega) (fun k hk'=>by
    rcases Nat.lt_or_ge k ((i+j) / 2) with h | h
    ·have:=hz.lt k _ h hh; omega
    ·obtain rfl:k=(i+j) / 2:=by omega
     exact hc) h2
  ·rw [ltI_f (show 0≤keyAt (gd p 0) ((i+j) / 2) - (gd q 0).int from by omega),cond_false]
   exact ih ((i+j) / 2 - i) (by omega) i ((i+j) / 2) M (by omega) (by omega) (by omega) h1 (fun k hk1 hk2=>by
    rcases Nat.lt_or_ge ((i+j) / 2) k with h | h
    ·have:=hz.lt _ k h hk2; omega
    ·obtain rfl:k=(i+j) / 2:=by omega
     omega)
def bsWE:Ent:=(69,e3 (sd (.sl 53)) ri (.one (.c (.fn 70 []))) fun p q r=>(⟨.tup [.c (.d si),.c (.d (.bool))],[.i (lowN (gd p 0) (gd q 0).int:Int),.b (bsB (gd p 0) (gd q 0).int)]⟩,cellsUp (gd p 0)&&inB (gd q 0).int 0 999))
theorem bsW_ok:EntOk Try.prog bsWE:=e3_ok fun p q r h=>evFn_sound (N:=1001) (ks:=bsWK) (key:=bo) bsWT_ok (enters Try.func69) Try.func69 fun hw=>by
 rw [bsW_ev]
 have h:(cellsUp (gd p 0)&&inB (gd q 0).int 0 999)=true:=h
 simp only [Bool.and_eq_true] at h
 have hz:=up_sorted h.1
 have hlen:=hz.len
 have e:=bs_loopW p q r 1001 hz h.2 (gd p 0).rows.length 0 (gd p 0).rows.length 1001 (by omega) (Nat.le_refl _) (by omega) (fun k hk=>absurd hk (Nat.not_lt_zero _)) (fun k h1 h2=>absurd h2 (by omega))
 simp only [Int.natCast_zero] at e
 unfold bsWs2 bsWs1 bsWs0
 rw [e]
 simp only [nd,cond_true,cond_false,Option.isSome_some,Out.code,Out.pay,Option.getD_some,gd_cons_zero,gd_cons_succ,Nat.reduceBEq,Nat.reduceAdd,int_i,bool_b,str_s,rows_l,Bool.not_true,Bool.not_false,beq_self_eq_true]
 unfold bsB
 have ht:=h.2
 simp only [inB,Bool.and_eq_true,decide_eq_true_eq] at ht
 by_cases hb:lowN (gd p 0) (gd q 0).int<(gd p 0).rows.length
 ·have hk:=hz.key _ hb
  rw [ltI_nat hb,inRange_nat hb,Int.toNat_natCast,show (gd ((gd p 0).rows.getD (lowN (gd p 0) (gd q 0).int) []) 0).int=keyAt (gd p 0) (lowN (gd p 0) (gd q 0).int) from rfl,w64_id (x:=keyAt (gd p 0) (lowN (gd p 0) (gd q 0).int) - (gd q 0).int) (by omega) (by omega)]
  rw [show (keyAt (gd p 0) (lowN (gd p 0) (gd q 0).int) - (gd q 0).int==0)=(keyAt (gd p 0) (lowN (gd p 0) (gd q 0).int)==(gd q 0).int) from by
   rw [Bool.eq_iff_iff]; simp only [beq_iff_eq]; omega]
  rfl
 ·rw [ltI_f (show ((gd p 0).rows.length:Int)≤(lowN (gd p 0) (gd q 0).int:Int) from by omega)]
  rfl
abbrev i_cellForWT:FuncId→List T→Option (T × Bool):=find [bsWE]
theorem i_cellForWT_ok:CallOk Try.prog i_cellForWT:=find_ok (fC ⟨bsW_ok,fN⟩)
abbrev i_cellForWK:List Nat:= [0,1,4,5]
theorem i_cellForW_ev (N:Nat) (p q:List D):evFn Try.prog i_cellForWT N i_cellForWK Try.f52 (.tup [.c (.d si),.c (.d (.bool))]) [⟨sd (.sl 53),p⟩,⟨ri,q⟩]=some (bo,
 nd (cellsUp (gd p 0)&&inB (gd q 0).int 0 999) (some (1,[.i (lowN (gd p 0) (gd q 0).int:Int),.b (bsB (gd p 0) (gd q 0).int)]))):=by kernel_rfl
def i_cellForWE:Ent:=(52,e2 (sd (.sl 53)) ri fun p q=>(⟨.tup [.c (.d si),.c (.d (.bool))],[.i (lowN (gd p 0) (gd q 0).int:Int),.b (bsB (gd p 0) (gd q 0).int)]⟩,cellsUp (gd p 0)&&inB (gd q 0).int 0 999))
theorem i_cellForW_ok:EntOk Try.prog i_cellForWE:=e2_ok fun p q h=>evFn_sound (N:=0) (ks:=i_cellForWK) (key:=bo) i_cellForWT_ok (enters Try.func52) Try.func52 fun hw=>by
 rw [i_cellForW_ev]
 have h:(cellsUp (gd p 0)&&inB (gd q 0).int 0 999)=true:=h
 rw [h,nd_true]
end Go.Proofs.Ytecefnhhlaolmaa
namespace Go.Proofs.Ytecefnhhlaolmaa.H
open Go.RowKit Go.Lib
set_option maxRecDepth 100000
set_option maxHeartbeats 4000000
theorem run_copy2 {P:Program} (w:World) (dT sT ty elem k:TypeId) (b o n dLen dCap:Nat) (a:Addr) (sLen sCap:Nat) (cs:List Value)
  (hu:P.underlying dT=some (.slice elem)) (hs:(P.info? elem).map (·.size)=some k) (hn:n=Nat.min sLen dLen) (hl:cs.length=n*k)
  (hsrc:∀ j v,cs[j]?=some v→w.cell? (a.add j)=some v) (hc:∀ j,j<cs.length→(w.cell? ⟨b,o+j,none⟩).isSome=true) (hf:∀ j,j<cs.length→w.frozen? ⟨b,o+j,none⟩=false) (h1:∀ v∈cs,v.oneCell'=true) :
  (Builtin.copy_ #[dT,sT] ty #[.slice (some ⟨b,o,none⟩) dLen dCap,.slice (some a) sLen sCap]).run P w=.ok (goInt n) (w.setCells b o cs):=by
 have hld:=run_loadCells_list (P:=P) w a cs hsrc
 have hst:=run_storeCells_cells (P:=P) b o cs 0 w (by simpa using hc) (by simpa using hf) h1
 cases hq:P.info? elem with
 | none=>simp [hq] at hs
 | some i =>
  have hi:i.size=k:=by simpa [hq] using hs
  rw [hl] at hld
  simp [Builtin.copy_,run_underlying hu,Builtin.lenOf,Builtin.firstCells,sizeOf,typeInfo,hq,hi,← hn,hld,hst]
theorem run_clear2 {P:Program} (w:World) (t e ty:TypeId) (z:Value) (ht:P.underlying t=some (.slice e)) (hv:∀ w,(zeroValue e).run P w=.ok z w) (h1:∀ u∈z.cells.toList,u.oneCell'=true) (b o c:Nat) (hs:0<z.cells.size)
  (hc:∀ j,j<z.cells.size→(w.cell? ⟨b,o+j,none⟩).isSome=true) (hf:∀ j,j<z.cells.size→w.frozen? ⟨b,o+j,none⟩=false) :
  (Builtin.clear_ #[t] ty #[.slice (some ⟨b,o,none⟩) 1 c]).run P w=.ok (.tuple #[]) (w.setCells b o z.cells.toList):=by
 have hzc:(Builtin.zeroCells z.cells 1).toList=z.cells.toList:=by
  apply List.ext_getElem
  ·simp [Builtin.zeroCells]
  ·intro j h1 h2
   have h2':j<z.cells.size:=by simpa using h2
   simp [Builtin.zeroCells,Nat.mod_eq_of_lt h2',getElem!_pos z.cells j h2']
 have hst:=run_storeCells_cells (P:=P) b o z.cells.toList 0 w (by simpa using hc) (by simpa using hf) h1
 simp [Builtin.clear_,run_underlying ht,hv,hzc,hst]
theorem isSome_set (b:Nat) (vs:List Value) (o:Nat) (w:World) (h:∀ j,j<vs.length→(w.cell? ⟨b,o+j,none⟩).isSome=true) (k:Nat) (hk:(w.cell? ⟨b,k,none⟩).isSome=true):((w.setCells b o vs).cell? ⟨b,k,none⟩).isSome=true:=by
 by_cases hin:o≤k∧k<o+vs.length
 ·obtain ⟨j,rfl⟩:∃ j,k=o+j:=⟨k - o,by omega⟩
  rw [World.cell?_setCells_in b vs o w h j (by omega)]; rfl
 ·rw [World.cell?_setCells_out b _ _ _ _ (fun _ _=>by show k<o∨_≤k; omega)]
  exact hk
abbrev zc:Value:=.agg #[.int .i64 0,.int .i64 0]
theorem zc_run (w:World):(zeroValue 53).run Try.prog w=.ok zc w:=Try.zeroValue53 w
theorem info_cell:(Try.prog.info? 53).map (fun i=>(i.zero,i.size,i.bytes))=some (some zc,2,16):=by kernel_rfl
theorem del_cell (b off n c i j:Nat) (cs:List Value) (w:World) (hj:j=i+1) (hi:i<n) (hnc:n≤c) (hc63:c≤9223372036854775807) (hcl:cs.length=n*2) (hcs:∀ j v,cs[j]?=some v→w.cell? ⟨b,off+j,none⟩=some v)
  (hfz:∀ j,j<n*2→w.frozen? ⟨b,off+j,none⟩=false) (h1:∀ v∈cs,v.oneCell'=true) :
  Calls Try.prog 53 #[.slice (some ⟨b,off,none⟩) n c,.int .i64 i,.int .i64 j] w fun e w' =>
   e=.returned (.slice (some ⟨b,off,none⟩) (n - 1) c)∧w'=(w.drew.setCells b (off+i*2) (cs.drop (j*2))).setCells b (off+(n - 1)*2) zc.cells.toList:=by
 obtain ⟨i0,hi0,hz0,hzs,hzb⟩:=info_parts info_cell
 have hsome:∀ j,j<n*2→(w.cell? ⟨b,off+j,none⟩).isSome=true:=fun j hj=>by
  rw [hcs j _ (List.getElem?_eq_getElem (by omega))]; rfl
 have mixed:Try.prog.follows .mixedOrders=true:=by kernel_rfl
 have hij:¬ ((i:Int)=(j:Int)):=by omega
 obtain ⟨news,hnews⟩:∃ news,news=cs.drop (j*2):=⟨_,rfl⟩
 have hnl:news.length=(n - j)*2:=by rw [hnews,List.length_drop,hcl,Nat.sub_mul]
 have hng:∀ t u,news[t]?=some u→w.cell? ⟨b,off+j*2+t,none⟩=some u:=fun t u hu=>by
  rw [hnews,List.getElem?_drop] at hu
  rw [Nat.add_assoc]
  exact hcs _ u hu
 have s2:Hid (∀ u∈news,u.oneCell'=true):=fun u hu=>h1 u (by rw [hnews] at hu; exact List.mem_of_mem_drop hu)
 obtain ⟨A,hA,hsrc⟩:∃ A:Addr,(if c=j then some (⟨b,off,none⟩:Addr) else some ⟨b,off+j*2,none⟩)=some A∧Hid (∀ t u,news[t]?=some u→w.drew.cell? (A.add t)=some u):=by
  by_cases h:c=j
  ·refine ⟨⟨b,off,none⟩,by simp [h],fun t u hu=>?_⟩
   have h0:news.length=0:=by rw [hnl]; omega
   rw [List.length_eq_zero_iff.1 h0] at hu
   simp at hu
  ·refine ⟨⟨b,off+j*2,none⟩,by simp [h],fun t u hu=>?_⟩
   rw [Addr.add_lit]
   exact hng t u hu
 have s1:Hid (news.length=(n - j)*2):=hnl
 have s3:Hid (∀ t,t<news.length→(w.drew.cell? ⟨b,off+i*2+t,none⟩).isSome=true∧w.drew.frozen? ⟨b,off+i*2+t,none⟩=false):=fun t ht=>by
  rw [hnl] at ht
  rw [Nat.add_assoc]
  exact ⟨hsome _ (by omega),hfz _ (by omega)⟩
 obtain ⟨W1,hW1⟩:∃ W1,W1=w.drew.setCells b (off+i*2) news:=⟨_,rfl⟩
 have hcl2:∀ ty cc,(Builtin.clear_ #[27] ty #[.slice (some ⟨b,off+(n - 1)*2,none⟩) 1 cc]).run Try.prog W1=.ok (.tuple #[]) (W1.setCells b (off+(n - 1)*2) zc.cells.toList):=fun ty cc=>by
  refine run_clear2 W1 _ _ ty zc Try.underlying27 zc_run (fun u hu=>?_) b _ cc (by decide) (fun t ht=>?_) (fun t ht=>?_)
  ·simp [Value.cells] at hu; subst hu; rfl
  ·have ht:t<2:=ht
   rw [hW1]
   refine isSome_set b _ _ _ (fun j hj=>?_) _ ?_
   ·rw [Nat.add_assoc]; exact hsome _ (by omega)
   ·rw [Nat.add_assoc]; exact hsome _ (by omega)
  ·have ht:t<2:=ht
   rw [hW1,World.frozen?_setCells,Nat.add_assoc]
   exact hfz _ (by omega)
 have hWh:Hid (W1=w.drew.setCells b (off+i*2) news):=hW1
 have e1:i+(n - j)=n - 1:=by omega
 have e2:n - (n - 1)=1:=by omega
 have b1:i≤c:=by omega
 have b2:j≤c:=by omega
 have b5:j≤n:=by omega
 have b6:i≤j:=by omega
 have b3:¬ (c=n - 1):=by omega
 have b4:n - 1≤n:=by omega
 clear hW1 hcs hfz hsome hng hnl hj
 go_enter Try.func53,Try.ntmps53
 go_wp2_with fail
 go_region_law_o (refine step_append_room rfl (.tmp 22) (.tmp 25) 27 rfl 53 i0 2 Try.underlying27 hi0 hzs b off i c (by simp [Act.eval,Act.put]) A (n - j) (c - j) news (by simp [Act.eval,Act.put]) s1.out hsrc.out s2.out (by omega) s3.out ?_; rw [← hWh.out,e1])
 go_wp2
 go_ret
 refine ⟨rfl,?_⟩
 rw [hWh.out,hnews]
 rfl
theorem ins_shift (b off n c i k vb voff vc:Nat) (cs vs:List Value) (w:World) (hk:k=i+1) (hi:i<n) (hroom:n+1≤c) (hc63:c≤9223372036854775807) (hvb:vb≠b)
  (hcl:cs.length=n*2) (hvl:vs.length=2)
  (hcs:∀ j v,cs[j]?=some v→w.cell? ⟨b,off+j,none⟩=some v) (hsp:∀ j,j<(n+1)*2→(w.cell? ⟨b,off+j,none⟩).isSome=true) (hfz:∀ j,j<(n+1)*2→w.frozen? ⟨b,off+j,none⟩=false)
  (hvs:∀ j v,vs[j]?=some v→w.cell? ⟨vb,voff+j,none⟩=some v) (h1c:∀ v∈cs,v.oneCell'=true) (h1v:∀ v∈vs,v.oneCell'=true)
  (tA tB:TypeId) (kA kB:Nat) (hsa:w.shape? vb=some (tA,kA)) (hsb:w.shape? b=some (tB,kB)) (hkB:kB≠0) (hfa:w.frozen? ⟨vb,voff,none⟩=false) (hfe:w.frozen? ⟨vb,kA,none⟩=false) :
  Calls Try.prog 55 #[.slice (some ⟨b,off,none⟩) n c,.int .i64 i,.slice (some ⟨vb,voff,none⟩) 1 vc] w fun e w' =>
   e=.returned (.slice (some ⟨b,off,none⟩) (n+1) c)∧w'=(w.drew.setCells b (off+k*2) (cs.drop (i*2))).setCells b (off+i*2) vs:=by
 obtain ⟨i0,hi0,hz0,hzs,hzb⟩:=info_parts info_cell
 have mixed:Try.prog.follows .mixedOrders=true:=by kernel_rfl
 have hz2:¬ ((i:Int)=(n:Int)):=by omega
 have hsz:(Try.prog.info? 53).map (·.size)=some 2:=by rw [hi0]; simp [hzs]
 have u41:=Try.underlying27
 have hov:∀ lb cb,(callFunc 71 #[.slice (some ⟨vb,voff,none⟩) 1 vc,.slice (some ⟨b,off+k*2,none⟩) lb cb]).run Try.prog w=.ok (.value (.bool false)) w:=fun lb cb=>by
  rw [run_callFunc_extern Try.func71 (by kernel_rfl) (by kernel_rfl) (by kernel_rfl) (e:=Extern.SlicesOverlaps.overlaps #[27,27] #[4]) (by kernel_rfl),
   Lib.run_overlaps_apart w 27 4 53 u41 2 Try.sizeOf53 ⟨vb,voff,none⟩ ⟨b,off+k*2,none⟩ 1 vc lb cb hvb tA tB kA kB hsa hsb hkB hfa hfe]
  rfl
 have hdl:(cs.drop (i*2)).length=(n - i)*2:=by rw [List.length_drop,hcl,Nat.sub_mul]
 have hcp1:∀ ty dc sc,(Builtin.copy_ #[27,27] ty #[.slice (some ⟨b,off+k*2,none⟩) (n+1 - k) dc,.slice (some ⟨b,off+i*2,none⟩) (n+1 - i) sc]).run Try.prog w.drew=.ok (goInt ((n - i:Nat):Int)) (w.drew.setCells b (off+k*2) (cs.drop (i*2))):=fun ty dc sc =>
  run_copy2 w.drew _ _ ty 53 2 b (off+k*2) (n - i) (n+1 - k) dc ⟨b,off+i*2,none⟩ (n+1 - i) sc (cs.drop (i*2)) u41 hsz (by simp only [Nat.min_def]; split <;> omega) hdl
   (fun j v hj=>by rw [Addr.add_lit,Nat.add_assoc]; exact hcs (i*2+j) v (by rwa [List.getElem?_drop] at hj))
   (fun j hj=>by rw [hdl] at hj; rw [Nat.add_assoc]; exact hsp _ (by omega)) (fun j hj=>by rw [hdl] at hj; rw [Nat.add_assoc]; exact hfz _ (by omega)) (fun v hv=>h1c v (List.mem_of_mem_drop hv))
 obtain ⟨W1,hW1⟩:∃ W1,W1=w.drew.setCells b (off+k*2) (cs.drop (i*2)):=⟨_,rfl⟩
 have hsp1:∀ t,t<(n+1)*2→(W1.cell? ⟨b,off+t,none⟩).isSome=true:=fun t ht=>by
  rw [hW1]
  exact isSome_set b _ _ _ (fun j hj=>by rw [hdl] at hj; rw [Nat.add_assoc]; exact hsp _ (by omega)) _ (hsp t ht)
 have hcp2:∀ (W:World),(∀ x,W.cell? x=W1.cell? x)→(∀ x,W.frozen? x=W1.frozen? x)→∀ ty dc,(Builtin.copy_ #[27,27] ty #[.slice (some ⟨b,off+i*2,none⟩) (n+1 - i) dc,.slice (some ⟨vb,voff,none⟩) 1 vc]).run Try.prog W=.ok (goInt 1) (W.setCells b (off+i*2) vs):=fun W hWc hWf ty dc =>
  run_copy2 W _ _ ty 53 2 b (off+i*2) 1 (n+1 - i) dc ⟨vb,voff,none⟩ 1 vc vs u41 hsz (by simp only [Nat.min_def]; split <;> omega) (by rw [hvl])
   (fun j v hj=>by
    rw [Addr.add_lit,hWc,hW1,World.cell?_setCells_out b _ _ _ _ (fun h _=>absurd h hvb)]
    exact hvs j v hj)
   (fun j hj=>by rw [hvl] at hj; rw [hWc,Nat.add_assoc]; exact hsp1 _ (by omega)) (fun j hj=>by rw [hvl] at hj; rw [hWf,hW1,World.frozen?_setCells,Nat.add_assoc]; exact hfz _ (by omega)) h1v
 have hE:Hid (W1=w.drew.setCells b (off+k*2) (cs.drop (i*2))):=hW1
 rw [← hW1] at hcp1
 have hw1:IntKind.i64.wrap ((n:Int)+1)=((n+1:Nat):Int):=by rw [IntKind.wrap_i64]; omega
 have hw2:IntKind.i64.wrap ((i:Int)+1)=(k:Int):=by rw [IntKind.wrap_i64]; omega
 have hnc:¬ ((n:Int)+1 > (c:Int)):=by omega
 have hb2:¬ (c=k):=by omega
 have hb4:¬ (c=i):=by omega
 have hin:i≤n:=by omega
 have hkn:(k:Int)≤(n:Int)+1:=by omega
 have hin2:(i:Int)≤(n:Int)+1:=by omega
 have hin1:i≤n+1:=by omega
 clear hsp hfz hcs hvs hsp1 hW1 hsa hsb hfa hfe hk hdl
 go_enter Try.func55,Try.ntmps55
 go_wp2_with (simp only [hov])
 go_region_law_o (refine step_copy_runI rfl _ _ 27 27 rfl _ _ (by simp [Act.eval,Act.put]) (by simp [Act.eval,Act.put]) (hcp1 _ _ _) ?_)
 go_wp2_with (at_builtin; refine wpList_copy_runI _ rfl _ _ 27 27 rfl _ _ rfl rfl (hcp2 _ (fun _=>rfl) (fun _=>rfl) _ _) ?_)
 go_ret
 exact ⟨rfl,by rw [hE.out]⟩
theorem ins_end (base:Option Addr) (n c vb voff vc:Nat) (w w1:World) (v':Value) (hnc:n≤c) (hc63:c≤9223372036854775807) (hb:base=none→c=0) (hr:∀ ty,(Builtin.append_ #[27,27] ty #[.slice base n c,.slice (some ⟨vb,voff,none⟩) 1 vc]).run Try.prog w=.ok v' w1) :
  Calls Try.prog 55 #[.slice base n c,.int .i64 n,.slice (some ⟨vb,voff,none⟩) 1 vc] w fun e w'=>e=.returned v'∧w'=w1:=by
 have mixed:Try.prog.follows .mixedOrders=true:=by kernel_rfl
 cases base with
 | none =>
  have h0:=hb rfl
  subst h0
  obtain rfl:n=0:=by omega
  go_enter Try.func55,Try.ntmps55
  go_wp2_with (at_builtin; refine Lib.wpList_append_run _ rfl _ _ _ _ rfl _ _ rfl rfl _ _ (hr _) ?_)
  all_goals (go_ret; exact ⟨rfl,rfl⟩)
 | some a =>
  obtain ⟨ab,ao,asp⟩:=a
  go_enter Try.func55,Try.ntmps55
  go_wp2_with (at_builtin; refine Lib.wpList_append_run _ rfl _ _ _ _ rfl _ _ rfl rfl _ _ (hr _) ?_)
  all_goals (go_ret; exact ⟨rfl,rfl⟩)
theorem ins_grow (b off n i k vb voff vc:Nat) (cs vs:List Value) (w:World) (hk:k=i+1) (hi:i<n) (hbig:(n+1)*16≤140737488355328)
  (hcl:cs.length=n*2) (hvl:vs.length=2)
  (hcs:∀ j v,cs[j]?=some v→w.cell? ⟨b,off+j,none⟩=some v)
  (hvs:∀ j v,vs[j]?=some v→w.cell? ⟨vb,voff+j,none⟩=some v) (h1c:∀ v∈cs,v.oneCell'=true) (h1v:∀ v∈vs,v.oneCell'=true) :
  Calls Try.prog 55 #[.slice (some ⟨b,off,none⟩) n n,.int .i64 i,.slice (some ⟨vb,voff,none⟩) 1 vc] w fun e w' =>
   e=.returned (.slice (some ⟨w.heap.size,0,none⟩) (n+1) (grownCap w (n+1) n 53)) ∧
   w'=(((w.alloc (.cells ((cs.take (i*2)).toArray++Builtin.zeroCells zc.cells (n+1 - i)++Builtin.zeroCells zc.cells (grownCap w (n+1) n 53 - (n+1))) 53)).drew.setCells w.heap.size (i*2) vs).drew).setCells w.heap.size (k*2) (cs.drop (i*2)):=by
 obtain ⟨i0,hi0,hz0,hzs,hzb⟩:=info_parts info_cell
 have mixed:Try.prog.follows .mixedOrders=true:=by kernel_rfl
 have u41:=Try.underlying27
 have u3:=Try.underlying3
 have hz2:¬ ((i:Int)=(n:Int)):=by omega
 have hsz:(Try.prog.info? 53).map (·.size)=some 2:=by rw [hi0]; simp [hzs]
 have hbw:b<w.heap.size:=block_lt_of_cell (hcs 0 _ (List.getElem?_eq_getElem (by omega)))
 have hvw:vb<w.heap.size:=block_lt_of_cell (hvs 0 _ (List.getElem?_eq_getElem (by omega)))
 have hik:i+(n+1 - i)=n+1:=by omega
 have hold:(Builtin.firstCells i0.size i (.slice (some ⟨b,off,none⟩) i n)).run Try.prog w.drew=.ok (cs.take (i*2)).toArray w.drew:=by
  rw [hzs]
  exact run_firstCells_some w.drew 2 i ⟨b,off,none⟩ i n (cs.take (i*2)) (by rw [List.length_take]; omega) (fun j v hj=>by
   rw [Addr.add_lit]
   rw [List.getElem?_take] at hj
   split at hj
   ·exact hcs j v hj
   ·cases hj)
 have hkk:IntKind.i64.wrap (((n+1:Nat):Int) - (i:Int))=((n+1 - i:Nat):Int):=by rw [IntKind.wrap_i64]; omega
 have hrz:∀ ty,(Builtin.append_ #[27,3] ty #[.slice (some ⟨b,off,none⟩) i n,.int .i64 ((n+1 - i:Nat):Int)]).run Try.prog w =
   .ok (.slice (some ⟨w.heap.size,0,none⟩) (n+1) (grownCap w (n+1) n 53)) (w.drew.alloc (.cells ((cs.take (i*2)).toArray++Builtin.zeroCells zc.cells (n+1 - i)++Builtin.zeroCells zc.cells (grownCap w (n+1) n 53 - (n+1))) 53)):=fun ty=>by
  have h:=Lib.run_append_grow_zeros w 27 3 ty 53 i0 zc .i64 .i64 u41 u3 hi0 hz0 (some ⟨b,off,none⟩) i n (cs.take (i*2)) hold (n+1 - i) (by omega) (by omega) (by omega) (by omega) (by rw [hzb]; omega) (by rw [hzb,hik]; exact growslice_fits (by omega) hbig)
  rw [hik] at h
  exact h
 obtain ⟨G,hG⟩:∃ G,G=grownCap w (n+1) n 53:=⟨_,rfl⟩
 obtain ⟨ROW,hROW⟩:∃ ROW:Array Value,ROW=(cs.take (i*2)).toArray++Builtin.zeroCells zc.cells (n+1 - i)++Builtin.zeroCells zc.cells (G - (n+1)):=⟨_,rfl⟩
 rw [← hG] at hrz ⊢
 rw [← hROW] at hrz ⊢
 have hRl:(n+1)*2≤ROW.size:=by
  rw [hROW]
  simp [Builtin.zeroCells,Value.cells,hcl]
  omega
 obtain ⟨W1,hW1⟩:∃ W1,W1=w.drew.alloc (.cells ROW 53):=⟨_,rfl⟩
 rw [← hW1] at hrz
 have hN:∀ j,j<(n+1)*2→(W1.cell? ⟨w.heap.size,j,none⟩).isSome=true:=fun j hj=>by
  rw [hW1,World.cell?_alloc_at (w:=w.drew) ROW _ w.heap.size j rfl,Array.getElem?_eq_getElem (by omega)]; rfl
 have hNf:∀ j,W1.frozen? ⟨w.heap.size,j,none⟩=false:=fun j=>by rw [hW1]; exact World.frozen?_alloc_at (w:=w.drew) ROW _ w.heap.size j rfl
 have hOb:∀ j v,w.cell? ⟨b,j,none⟩=some v→W1.cell? ⟨b,j,none⟩=some v:=fun j v h=>by rw [hW1,World.cell?_alloc_past (w:=w.drew) _ b j hbw]; exact h
 have hOv:∀ j v,w.cell? ⟨vb,j,none⟩=some v→W1.cell? ⟨vb,j,none⟩=some v:=fun j v h=>by rw [hW1,World.cell?_alloc_past (w:=w.drew) _ vb j hvw]; exact h
 have hcpA:∀ (W:World),(∀ x,W.cell? x=W1.cell? x)→(∀ x,W.frozen? x=W1.frozen? x)→∀ ty dc,(Builtin.copy_ #[27,27] ty #[.slice (some ⟨w.heap.size,i*2,none⟩) (n+1 - i) dc,.slice (some ⟨vb,voff,none⟩) 1 vc]).run Try.prog W=.ok (goInt 1) (W.setCells w.heap.size (i*2) vs):=fun W hWc hWf ty dc =>
  run_copy2 W _ _ ty 53 2 w.heap.size (i*2) 1 (n+1 - i) dc ⟨vb,voff,none⟩ 1 vc vs u41 hsz (by simp only [Nat.min_def]; split <;> omega) (by rw [hvl])
   (fun j v hj=>by rw [Addr.add_lit,hWc]; exact hOv _ v (hvs j v hj))
   (fun j hj=>by rw [hvl] at hj; rw [hWc]; exact hN _ (by omega)) (fun j hj=>by rw [hWf]; exact hNf _) h1v
 have hGn:n+1≤G:=by rw [hG]; exact grownCap_ge w _ _ _
 have hG63:G≤9223372036854775807:=by
  have:=grownCap_le_maxLen w (n+1) n 53 (by unfold maxLen; omega)
  rw [← hG] at this
  unfold maxLen at this
  omega
 have hbN:b≠w.heap.size:=by omega
 have hdl:(cs.drop (i*2)).length=(n - i)*2:=by rw [List.length_drop,hcl,Nat.sub_mul]
 have hcpB:∀ (W:World),(∀ x,W.cell? x=(W1.setCells w.heap.size (i*2) vs).cell? x)→(∀ x,W.frozen? x=(W1.setCells w.heap.size (i*2) vs).frozen? x)→∀ ty dc sc,(Builtin.copy_ #[27,27] ty #[.slice (some ⟨w.heap.size,k*2,none⟩) (n+1 - k) dc,.slice (some ⟨b,off+i*2,none⟩) (n - i) sc]).run Try.prog W=.ok (goInt ((n - i:Nat):Int)) (W.setCells w.heap.size (k*2) (cs.drop (i*2))):=fun W hWc hWf ty dc sc =>
  run_copy2 W _ _ ty 53 2 w.heap.size (k*2) (n - i) (n+1 - k) dc ⟨b,off+i*2,none⟩ (n - i) sc (cs.drop (i*2)) u41 hsz (by simp only [Nat.min_def]; split <;> omega) hdl
   (fun j v hj=>by
    rw [Addr.add_lit,hWc,World.cell?_setCells_out _ _ _ _ _ (fun h _=>absurd h hbN),Nat.add_assoc]
    exact hOb _ v (hcs (i*2+j) v (by rwa [List.getElem?_drop] at hj)))
   (fun j hj=>by rw [hdl] at hj; rw [hWc]; exact isSome_set _ _ _ _ (fun t ht=>by rw [hvl] at ht; exact hN _ (by omega)) _ (hN _ (by omega)))
   (fun j hj=>by rw [hWf,World.frozen?_setCells]; exact hNf _) (fun v hv=>h1c v (List.mem_of_mem_drop hv))
 subst hW1
 have hE1:∀ x,((w.alloc (.cells ROW 53)).drew).cell? x=(w.drew.alloc (.cells ROW 53)).cell? x:=fun x=>rfl
 have hE2:∀ x,((w.alloc (.cells ROW 53)).drew).frozen? x=(w.drew.alloc (.cells ROW 53)).frozen? x:=fun x=>rfl
 have hF1:∀ x,(((w.alloc (.cells ROW 53)).drew.setCells w.heap.size (i*2) vs).drew).cell? x=((w.drew.alloc (.cells ROW 53)).setCells w.heap.size (i*2) vs).cell? x:=fun x=>rfl
 have hF2:∀ x,(((w.alloc (.cells ROW 53)).drew.setCells w.heap.size (i*2) vs).drew).frozen? x=((w.drew.alloc (.cells ROW 53)).setCells w.heap.size (i*2) vs).frozen? x:=fun x=>rfl
 have hw1:IntKind.i64.wrap ((n:Int)+1)=((n+1:Nat):Int):=by rw [IntKind.wrap_i64]; omega
 have hw2:IntKind.i64.wrap ((i:Int)+1)=(k:Int):=by rw [IntKind.wrap_i64]; omega
 have hw3:IntKind.i64.wrap ((n:Int)+1 - (i:Int))=((n+1 - i:Nat):Int):=by rw [IntKind.wrap_i64]; omega
 have hw4:(n:Int)+1 - (i:Int)=((n+1 - i:Nat):Int):=by omega
 have hgt:(n:Int)+1 > (n:Int):=by omega
 have hci:¬ (n=i):=by omega
 have hGi:¬ (G=i):=by omega
 have hGk:¬ (G=k):=by omega
 have hin:i≤n:=by omega
 have hinZ:(i:Int)≤(n:Int):=by omega
 have hknZ:(k:Int)≤(n:Int)+1:=by omega
 have hinZ1:(i:Int)≤(n:Int)+1:=by omega
 clear hold hROW hG hRl hik hk
 go_enter Try.func55,Try.ntmps55
 go_wp2_with (first
  | (at_builtin; refine Lib.wpList_append_run _ rfl _ _ _ _ rfl _ _ rfl rfl _ _ (hrz _) ?_)
  | (at_builtin; refine wpList_copy_runI _ rfl _ _ 27 27 rfl _ _ rfl rfl (hcpA _ hE1 hE2 _ _) ?_))
 go_region_law_o (refine step_copy_runI rfl _ _ 27 27 rfl (.slice (some ⟨w.heap.size,k*2,none⟩) (n+1 - k) (G - k)) (.slice (some ⟨b,off+i*2,none⟩) (n - i) (n - i)) (by simp [Act.eval,Act.put]) (by simp [Act.eval,Act.put]) (hcpB _ hF1 hF2 3 (G - k) (n - i)) ?_)
 go_wp2
 go_ret
 exact ⟨rfl,rfl⟩
end Go.Proofs.Ytecefnhhlaolmaa.H
namespace Go.Proofs.Ytecefnhhlaolmaa
set_option maxRecDepth 100000
set_option maxHeartbeats 4000000
open Go.RowKit Go.Lib
theorem setCells_heap (b:Nat) (e:TypeId) (fz:Nat × Nat):∀ (vs:List Value) (o:Nat) (w:World) (arr:Array Value),w.heap[b]?=some (.cells arr e fz)→o+vs.length≤arr.size →
  ∃ arr':Array Value,(w.setCells b o vs).heap[b]?=some (.cells arr' e fz)∧arr'.size=arr.size∧(∀ k,k<o∨o+vs.length≤k→arr'[k]?=arr[k]?)∧(∀ j v,vs[j]?=some v→arr'[o+j]?=some v)
 | [],o,w,arr,h,_=>⟨arr,h,rfl,fun _ _=>rfl,fun j v hj=>by simp at hj⟩
 | v::r,o,w,arr,h,hl=>by
  have hl':o+(r.length+1)≤arr.size:=hl
  have h1:(w.setCell ⟨b,o,none⟩ v).heap[b]?=some (.cells (arr.setIfInBounds o v) e fz):=by
   simp [World.setCell,Array.getElem?_modify,h]
  obtain ⟨arr',k1,k2,k3,k4⟩:=setCells_heap b e fz r (o+1) _ _ h1 (by simp; omega)
  refine ⟨arr',k1,by rw [k2]; simp,fun k hk=>?_,fun j u hj=>?_⟩
  ·have hk:k<o∨o+(r.length+1)≤k:=hk
   rw [k3 k (by omega),Array.getElem?_setIfInBounds,if_neg (by omega)]
  ·cases j with
   | zero =>
    simp only [List.getElem?_cons_zero,Option.some.injEq] at hj
    subst hj
    rw [Nat.add_zero,k3 o (.inl (by omega)),Array.getElem?_setIfInBounds,if_pos rfl,if_pos (by omega)]
   | succ j =>
    have:=k4 j u (by simpa using hj)
    rwa [show o+(j+1)=o+1+j from by omega]
theorem setCells_else (b:Nat):∀ (vs:List Value) (o:Nat) (w:World),(w.setCells b o vs).os=w.os∧(w.setCells b o vs).tape=w.tape∧(w.setCells b o vs).output=w.output∧(w.setCells b o vs).heap.size=w.heap.size∧∀ k,k≠b→(w.setCells b o vs).heap[k]?=w.heap[k]?
 | [],o,w=>⟨rfl,rfl,rfl,rfl,fun _ _=>rfl⟩
 | v::r,o,w=>by
  obtain ⟨h1,h2,h3,h4,h5⟩:=setCells_else b r (o+1) (w.setCell ⟨b,o,none⟩ v)
  refine ⟨h1,h2,h3,h4.trans (by simp [World.setCell]),fun k hk=>(h5 k hk).trans ?_⟩
  simp only [World.setCell,Array.getElem?_modify]
  rw [if_neg (by simpa using Ne.symm hk)]
abbrev cellRow:List S:= [.int .i64,.int .i64]
theorem row_cell:rowOf Try.prog 53=some cellRow:=by kernel_rfl
def cellsV (rows:List (List D)):List Value:=rows.flatMap fun r => [.int .i64 (gd r 0).int,.int .i64 (gd r 1).int]
theorem cellsV_len:∀ rows,(cellsV rows).length=rows.length*2
 | []=>rfl
 | r::rs=>by
  have:=cellsV_len rs
  simp only [cellsV,List.flatMap_cons,List.length_append,List.length_cons,List.length_nil] at *
  omega
theorem cellsV_cons (r:List D) (rs:List (List D)):cellsV (r::rs)=.int .i64 (gd r 0).int::.int .i64 (gd r 1).int::cellsV rs:=rfl
theorem cellsV_get:∀ (rows:List (List D)) (i:Nat),i<rows.length→(cellsV rows)[i*2]?=some (.int .i64 (gd (rows.getD i []) 0).int)∧(cellsV rows)[i*2+1]?=some (.int .i64 (gd (rows.getD i []) 1).int)
 | [],i,h=>by simp at h
 | r::rs,0,_=>⟨rfl,rfl⟩
 | r::rs,i+1,h=>by
  have:=cellsV_get rs i (by simpa using h)
  rw [cellsV_cons,show (i+1)*2=i*2+1+1 from by omega]
  exact this
theorem cellsV_all {F:Nat→Value→Prop} {rows:List (List D)} (h:∀ i,i<rows.length→F (i*2) (.int .i64 (gd (rows.getD i []) 0).int)∧F (i*2+1) (.int .i64 (gd (rows.getD i []) 1).int)) {k:Nat} {v:Value} (hk:(cellsV rows)[k]?=some v):F k v:=by
 have hlt:=(List.getElem?_eq_some_iff.1 hk).1
 rw [cellsV_len] at hlt
 have hi:k / 2<rows.length:=by omega
 obtain ⟨h1,h2⟩:=cellsV_get rows (k / 2) hi
 obtain ⟨q1,q2⟩:=h (k / 2) hi
 rcases Nat.mod_two_eq_zero_or_one k with hm | hm
 ·have e:k / 2*2=k:=by omega
  rw [e] at h1 q1
  rw [hk] at h1; injection h1 with h1; rw [h1]; exact q1
 ·have e:k / 2*2+1=k:=by omega
  rw [e] at h2 q2
  rw [hk] at h2; injection h2 with h2; rw [h2]; exact q2
theorem cellsV_one (rows:List (List D)):∀ v∈cellsV rows,v.oneCell'=true:=fun v hv=>by
 obtain ⟨k,hk⟩:=List.getElem?_of_mem hv
 exact cellsV_all (F:=fun _ v=>v.oneCell'=true) (fun i _=>⟨rfl,rfl⟩) hk
theorem ownK_cell {w:World} {rows:List (List D)} {b cap:Nat} {arr:Array Value} (hh:w.heap[b]?=some (.cells arr 53 (0,0))) (hs:arr.size=cap*2) (hle:rows.length≤cap) (h63:cap≤9223372036854775807)
  (hc:∀ i,i<rows.length→arr[i*2]?=some (.int .i64 (gd (rows.getD i []) 0).int)∧arr[i*2+1]?=some (.int .i64 (gd (rows.getD i []) 1).int)):OwnK w 53 cellRow rows (.slice (some ⟨b,0,none⟩) rows.length cap) (some b):=by
 refine .inr ⟨b,cap,arr,rfl,rfl,hle,h63,hh,hs,fun i j s hi hs=>?_⟩
 obtain ⟨h1,h2⟩:=hc i hi
 match j,hs with
 | 0,hs=>injection hs with hs; subst hs; exact ⟨_,h1,rfl⟩
 | 1,hs=>injection hs with hs; subst hs; exact ⟨_,h2,rfl⟩
theorem ownK_at {w:World} {rows:List (List D)} {u:Value} {B:Option Nat} (h:OwnK w 53 cellRow rows u B):(B=none∧rows = []∧∃ A,u=.slice A 0 0) ∨
  ∃ (b cap:Nat) (arr:Array Value),B=some b∧u=.slice (some ⟨b,0,none⟩) rows.length cap∧rows.length≤cap∧cap≤9223372036854775807∧w.heap[b]?=some (.cells arr 53 (0,0))∧arr.size=cap*2 ∧
   ∀ i,i<rows.length→arr[i*2]?=some (.int .i64 (gd (rows.getD i []) 0).int)∧arr[i*2+1]?=some (.int .i64 (gd (rows.getD i []) 1).int):=by
 rcases h with h | ⟨b,cap,arr,h1,h2,h3,h4,h5,h6,h7⟩
 ·exact .inl h
 ·refine .inr ⟨b,cap,arr,h1,h2,h3,h4,h5,h6,fun i hi=>?_⟩
  obtain ⟨u0,k1,k2⟩:=h7 i 0 (.int .i64) hi rfl
  obtain ⟨u1,k3,k4⟩:=h7 i 1 (.int .i64) hi rfl
  rw [k2] at k1
  rw [k4] at k3
  exact ⟨k1,k3⟩
theorem vd_cells {w:World} {prot:Nat→Nat} {x:D} {v:Value} (h:VD Try.prog w prot (.sl 53) x v):∃ A c,v=.slice A x.rows.length c∧x.rows.length≤c∧c≤9223372036854775807 ∧
  (0<x.rows.length→∃ b o,A=some ⟨b,o,none⟩)∧∀ b o,A=some ⟨b,o,none⟩→∀ k v,(cellsV x.rows)[k]?=some v→w.cell? ⟨b,o+k,none⟩=some v∧o+k<prot b:=by
 cases h with
 | sl e d A c row u hr h1 h2 h3 h4 =>
  rw [row_cell] at hr
  injection hr with hr
  subst hr
  refine ⟨A,c,rfl,h1,h2,fun h0=>?_,fun b o hA k v hk=>?_⟩
  ·obtain ⟨b,o,hA,_⟩:=h3 0 0 h0 (by decide)
   exact ⟨b,o,hA⟩
  ·subst hA
   have hb:∀ i j,i<x.rows.length→j<2→∃ v,w.cell? ⟨b,o+(i*2+j),none⟩=some v∧o+(i*2+j)<prot b∧v=.int .i64 (gd (x.rows.getD i []) j).int:=fun i j hi hj=>by
    obtain ⟨b',o',hA,hc,hp⟩:=h3 i j hi hj
    injection hA with hA
    injection hA with e1 e2 _
    subst e1; subst e2
    have hv:=h4 i j (.int .i64) hi (by match j,hj with | 0,_=>rfl | 1,_=>rfl)
    generalize u i j=z at *
    cases hv
    exact ⟨_,hc,hp,rfl⟩
   refine cellsV_all (F:=fun k v=>w.cell? ⟨b,o+k,none⟩=some v∧o+k<prot b) (fun i hi=>?_) hk
   obtain ⟨v0,q1,q2,rfl⟩:=hb i 0 hi (by decide)
   obtain ⟨v1,q3,q4,rfl⟩:=hb i 1 hi (by decide)
   exact ⟨⟨by simpa using q1,by simpa using q2⟩,q3,q4⟩
theorem clone_cell (a:Addr) (n c:Nat) (news:List Value) (w:World) (hl:news.length=n*2) (hn:n≤1000000) (hc:∀ j u,news[j]?=some u→w.cell? (a.add j)=some u) (h1:∀ u∈news,u.oneCell'=true) :
  Calls Try.prog 54 #[.slice (some a) n c] w fun e w'=>∃ v',e=.returned v'∧w'.ownsRow w.heap.size 53 2 v' n news∧Below w.heap.size w w':=by
 obtain ⟨i0,hi0,hz0,hzs,hzb⟩:=info_parts H.info_cell
 have mixed:Try.prog.follows .mixedOrders=true:=by kernel_rfl
 have q22:∀ (w:World) (a:Option Addr) (n c n' c':Nat),(binOp .eql 27 (.slice a n c) (.slice none n' c')).run Try.prog w=.ok (.bool a.isNone) w:=fun w a n c n' c'=>Lib.run_eql_slice_nil w _ _ a n c n' c' Try.underlying27
 have A:Aside (∀ j u,news[j]?=some u→w.cell? (a.add j)=some u):=hc
 clear hc
 go_enter Try.func54,Try.ntmps54
 go_wp2_with (at_builtin; refine wpList_append_own _ rfl _ _ 27 rfl w.heap.size 53 i0 H.zc 2 16 Try.underlying27 hi0 hz0 hzs hzb rfl (by decide) _ _ _ rfl (World.ownsRow_made w #[] 0 (Nat.le_refl _) (Nat.zero_le _) (by simp)) a n c news rfl ?qc1 ?qc2 ?qc3 ?qc4 ?qc5 ?qc6 ?_)
 case qc1=>exact hl
 case qc2 =>
  intro j u hj
  exact Lib.cell?_alloc_some _ (A.out j u hj)
 case qc3=>exact h1
 case qc4=>rw [Nat.zero_add]; unfold maxLen; omega
 case qc5=>rw [Nat.zero_add]; omega
 case qc6=>simp
 intro v' w1 hown hgrow hnil
 go_wp2
 go_ret
 refine ⟨v',rfl,by simpa using hown,?_⟩
 exact ((Below.refl _ w).alloc (Nat.le_refl _) _).grown hgrow (by simp) (by intro k hk; simp [Value.ownBlock] at hk; omega)
theorem clone_nil (n c:Nat) (w:World) :
  Calls Try.prog 54 #[.slice none n c] w fun e w'=>e=.returned (.slice none 0 0)∧w'=w:=by
 have mixed:Try.prog.follows .mixedOrders=true:=by kernel_rfl
 have q22:∀ (w:World) (a:Option Addr) (n c n' c':Nat),(binOp .eql 27 (.slice a n c) (.slice none n' c')).run Try.prog w=.ok (.bool a.isNone) w:=fun w a n c n' c'=>Lib.run_eql_slice_nil w _ _ a n c n' c' Try.underlying27
 go_enter Try.func54,Try.ntmps54
 go_wp2
 go_ret
 exact ⟨rfl,rfl⟩
theorem res_cells {prot:Nat→Nat} {w w':World} {x:D} {v:Value} (hfr:∀ b,w.heap.size≤b→prot b=0) (hb:Below w.heap.size w w') (ho:w'.ownsRow w.heap.size 53 2 v x.rows.length (cellsV x.rows)) :
  ∃ g',Res Try.prog prot w w' ⟨.one (.c (.own (0,0) true 53)),[x]⟩ v g':=by
 obtain ⟨hl,⟨rfl,h0⟩ | ⟨blk,cap,cur,rfl,hblk,hh,hcap,hmax,hsz,htk⟩⟩:=ho
 ·exact ⟨g0 0 prot,hb,⟨cellRow,row_cell,.inl ⟨List.eq_nil_of_length_eq_zero h0,rfl,none,rfl⟩⟩,fun _ _=>rfl,fun b hb'=>⟨hfr b (Nat.le_trans hb.size hb'),rfl⟩⟩
 ·refine ⟨⟨prot,fun b=>if b=blk then some (.inr (0,0)) else none,fun _=>0,fun _=>blk,fun _=>x.rows.length,fun _=>2,fun _=>53,fun _ => [],fun _=>0,fun _=>False⟩,hb,⟨cellRow,row_cell,.inr ⟨cap,cur,53,rfl,hcap,⟨by unfold maxLen at hmax; omega,rfl,rfl⟩,hblk,if_pos rfl,hh,hsz,rfl,rfl,?_,?_⟩⟩,fun _ _=>rfl,fun b hb'=>⟨hfr b (Nat.le_trans hb.size hb'),?_⟩⟩
  ·show prot blk=0
   exact hfr blk hblk
  ·intro i j s hi hs
   have hi:i<x.rows.length:=hi
   obtain ⟨q1,q2⟩:=cellsV_get x.rows i hi
   rw [← htk,List.getElem?_take,if_pos (by omega)] at q1 q2
   match j,hs with
   | 0,hs =>
    injection hs with hs
    subst hs
    exact ⟨.int .i64 (gd (x.rows.getD i []) 0).int,by simpa using q1,.of_vd (.int .i64 _) (.inr rfl)⟩
   | 1,hs =>
    injection hs with hs
    subst hs
    exact ⟨.int .i64 (gd (x.rows.getD i []) 1).int,by simpa using q2,.of_vd (.int .i64 _) (.inr rfl)⟩
  ·have:=lt_of_heap hh
   exact if_neg (by omega)
def i_clonCE:Ent:=(54,e1 (sd (.sl 53)) fun p=>(⟨.one (.c (.own (0,0) true 53)),[.l (gd p 0).rows]⟩,leI ((gd p 0).rows.length:Int) 1000000))
theorem i_clonC_ok:EntOk Try.prog i_clonCE:=e1_ok fun p h=>by
 have h:leI ((gd p 0).rows.length:Int) 1000000=true:=h
 simp only [leI,decide_eq_true_eq] at h
 refine SoundFn.of rfl ⟨enters Try.func54 (by kernel_rfl) (by kernel_rfl),fun w prot vs hargs hfr=>?_⟩
 obtain ⟨u,hu,hv⟩:=hargs.2 0 _ rfl
 have hvs:vs = #[u]:=by
  have hs:vs.size=1:=hargs.1
  refine Array.ext (by simpa using hs) fun i h1 h2=>?_
  have:i=0:=by omega
  subst this
  rw [Array.getElem?_eq_getElem h1] at hu
  injection hu
 subst hvs
 have hv:VD Try.prog w prot (.sl 53) (gd p 0) u:=hv
 generalize gd p 0=x at *
 obtain ⟨A,c,rfl,h1,h2,h3,h4⟩:=vd_cells hv
 cases A with
 | none =>
  have h0:x.rows.length=0:=by
   rcases Nat.eq_zero_or_pos x.rows.length with h' | h'
   ·exact h'
   ·obtain ⟨b,o,hA⟩:=h3 h'
    cases hA
  have hx0:x.rows = []:=List.eq_nil_of_length_eq_zero h0
  refine (clone_nil x.rows.length c w).mono ?_
  rintro ex w' ⟨rfl,rfl⟩
  obtain ⟨g',hg⟩:=res_cells (x:=x) (prot:=prot) (w:=w') (w':=w') hfr (Below.refl _ _) (v:=.slice none 0 0) ⟨cellsV_len _,.inl ⟨rfl,h0⟩⟩
  exact ⟨_,g',rfl,hg.below,hg.val,hg.prot,hg.fresh⟩
 | some ad =>
  refine (clone_cell ad x.rows.length c (cellsV x.rows) w (cellsV_len _) (by omega) (fun j u hj=>?_) (cellsV_one _)).mono ?_
  ·have hpos:0<x.rows.length:=by
    have:=(List.getElem?_eq_some_iff.1 hj).1
    rw [cellsV_len] at this
    omega
   obtain ⟨b,o,hA⟩:=h3 hpos
   injection hA with hA
   subst hA
   rw [Addr.add_lit]
   exact (h4 b o rfl j u hj).1
  ·rintro ex w' ⟨v',rfl,hown,hbel⟩
   obtain ⟨g',hg⟩:=res_cells (x:=x) (prot:=prot) hfr hbel hown
   exact ⟨_,g',rfl,hg.below,hg.val,hg.prot,hg.fresh⟩
theorem cellsV_app (a b:List (List D)):cellsV (a++b)=cellsV a++cellsV b:=by simp [cellsV]
theorem cellsV_take:∀ (rows:List (List D)) (i:Nat),cellsV (rows.take i)=(cellsV rows).take (i*2)
 | [],i=>by simp [cellsV]
 | r::rs,0=>by simp [cellsV]
 | r::rs,i+1=>by
  rw [List.take_succ_cons,cellsV_cons,cellsV_cons,cellsV_take rs i,show (i+1)*2=i*2+1+1 from by omega,List.take_succ_cons,List.take_succ_cons]
theorem cellsV_drop:∀ (rows:List (List D)) (i:Nat),cellsV (rows.drop i)=(cellsV rows).drop (i*2)
 | [],i=>by simp [cellsV]
 | r::rs,0=>by simp [cellsV]
 | r::rs,i+1=>by
  rw [List.drop_succ_cons,cellsV_cons,cellsV_drop rs i,show (i+1)*2=i*2+1+1 from by omega,List.drop_succ_cons,List.drop_succ_cons]
theorem ownK_mk {w:World} {rows:List (List D)} {b cap n:Nat} {arr:Array Value} (hh:w.heap[b]?=some (.cells arr 53 (0,0))) (hn:n=rows.length) (hs:arr.size=cap*2) (hle:rows.length≤cap) (h63:cap≤9223372036854775807)
  (hc:∀ (k:Nat) v,(cellsV rows)[k]?=some v→arr[k]?=some v):OwnK w 53 cellRow rows (.slice (some ⟨b,0,none⟩) n cap) (some b):=by
 subst hn
 exact ownK_cell hh hs hle h63 fun i hi=>⟨hc _ _ (cellsV_get rows i hi).1,hc _ _ (cellsV_get rows i hi).2⟩
theorem ownK_get {w:World} {rows:List (List D)} {u:Value} {B:Option Nat} (h:OwnK w 53 cellRow rows u B):(B=none∧rows = []∧∃ A,u=.slice A 0 0) ∨
  ∃ (b cap:Nat) (arr:Array Value),B=some b∧u=.slice (some ⟨b,0,none⟩) rows.length cap∧rows.length≤cap∧cap≤9223372036854775807∧w.heap[b]?=some (.cells arr 53 (0,0))∧arr.size=cap*2 ∧
   ∀ (k:Nat) v,(cellsV rows)[k]?=some v→arr[k]?=some v:=by
 rcases ownK_at h with h | ⟨b,cap,arr,h1,h2,h3,h4,h5,h6,h7⟩
 ·exact .inl h
 ·exact .inr ⟨b,cap,arr,h1,h2,h3,h4,h5,h6,fun k v hk=>cellsV_all (F:=fun k v=>arr[k]?=some v) h7 hk⟩
theorem vd_int {P:Program} {w:World} {prot:Nat→Nat} {k:IntKind} {x:D} {v:Value} (h:VD P w prot (.int k) x v):v=.int k x.int:=by
 cases h; rfl
theorem args_at {P:Program} {prot:Nat→Nat} {w:World} {args:List T} {vs:Array Value} (h:ArgsV P prot w args vs) (us:List Value) (hl:us.length=args.length) (hu:∀ (j:Nat) t u,args[j]?=some t→vs[j]?=some u→us[j]?=some u):vs=us.toArray:=by
 refine Array.ext (by simp [h.1,hl]) fun i h1 h2=>?_
 have hi:i<args.length:=by rw [← h.1]; exact h1
 have:=hu i _ _ (List.getElem?_eq_getElem hi) (Array.getElem?_eq_getElem h1)
 rw [List.getElem?_eq_getElem (by omega)] at this
 simp only [Option.some.injEq] at this
 simpa using this.symm
theorem args_ii {P:Program} {prot:Nat→Nat} {w:World} {q r:List D} {vs:Array Value} (h:ArgsV P prot w [⟨ri,q⟩,⟨ri,r⟩] vs):vs = #[.int .i64 (gd q 0).int,.int .i64 (gd r 0).int]:=by
 refine args_at h [.int .i64 (gd q 0).int,.int .i64 (gd r 0).int] rfl fun j t u h1 h2=>?_
 obtain ⟨u',k1,k2⟩:=h.2 j t h1
 rw [h2] at k1; injection k1 with k1; subst k1
 match j,h1 with
 | 0,h1 =>
  injection h1 with h1; subst h1
  have:=vd_int (k:=.i64) (show VD P w prot (.int .i64) (gd q 0) u from k2)
  rw [this]; rfl
 | 1,h1 =>
  injection h1 with h1; subst h1
  have:=vd_int (k:=.i64) (show VD P w prot (.int .i64) (gd r 0) u from k2)
  rw [this]; rfl
theorem cell_at {w:World} {b:Nat} {arr:Array Value} {e:TypeId} {fz:Nat × Nat} (h:w.heap[b]?=some (.cells arr e fz)) (k:Nat):w.cell? ⟨b,k,none⟩=arr[k]?:=by
 simp [World.cell?,h]
theorem unfrozen {w:World} {b:Nat} {arr:Array Value} {e:TypeId} (h:w.heap[b]?=some (.cells arr e (0,0))) (k:Nat):w.frozen? ⟨b,k,none⟩=false:=by
 simp [World.frozen?,h]
def delRows (rows:List (List D)) (i:Nat):List (List D):=rows.take i++rows.drop (i+1)
def i_delCE:Ent:=(53,e3 (sd (.sl 53)) ri ri fun p q r=>(⟨.tup [.agg [.any]],[.l (delRows (gd p 0).rows (gd q 0).int.toNat)]⟩,leI ((gd p 0).rows.length:Int) 1000000&&inRange (gd q 0).int (gd p 0).rows.length&&((gd r 0).int==(gd q 0).int+1)))
theorem i_delC_ok:EntOk Try.prog i_delCE:=e3_ok fun p q r h=>by
 have h:(leI ((gd p 0).rows.length:Int) 1000000&&inRange (gd q 0).int (gd p 0).rows.length&&((gd r 0).int==(gd q 0).int+1))=true:=h
 simp only [Bool.and_eq_true,leI,decide_eq_true_eq,beq_iff_eq] at h
 obtain ⟨⟨h1,h2⟩,h3⟩:=h
 obtain ⟨hq0,hq1⟩:0≤(gd q 0).int∧(gd q 0).int<((gd p 0).rows.length:Int):=by simpa [inRange] using h2
 refine SoundFn.ofK rfl ⟨enters Try.func53 (by kernel_rfl) (by kernel_rfl),fun e x rest row he hrow hflat w prot u B vs hO hB hfr hargs hko=>?_⟩
 injection he with he hre
 injection he with he hp
 injection he with he
 injection he with he
 injection he with he
 injection he with he
 subst he hp hre
 rw [row_cell] at hrow
 injection hrow with hrow
 subst hrow
 have hvs:=args_ii (hargs w (Changed.refl w B))
 subst hvs
 have h1:(x.rows.length:Int)≤1000000:=h1
 have hq1:(gd q 0).int<(x.rows.length:Int):=hq1
 obtain ⟨i,hi⟩:∃ i:Nat,(gd q 0).int=i:=⟨(gd q 0).int.toNat,by omega⟩
 obtain ⟨n,hn⟩:∃ n,n=x.rows.length:=⟨_,rfl⟩
 have hin:i<n:=by omega
 have hout:(gd [D.l (delRows x.rows (gd q 0).int.toNat)] 0).rows=delRows x.rows i:=by rw [hi]; rfl
 show Calls _ _ _ w fun ex w'=>∃ v' B',ex=.returned v'∧Changed w w' B∧OwnK w' _ _ (gd [D.l (delRows x.rows (gd q 0).int.toNat)] 0).rows v' B'∧_
 rw [hout]
 rcases ownK_get hO with ⟨_,h0,_⟩ | ⟨b,cap,arr,rfl,rfl,hle,h63,hh,hs,hc⟩
 ·rw [h0] at hn; simp at hn; omega
 ·rw [← hn] at hle ⊢
  have hcl:(cellsV x.rows).length=n*2:=by rw [cellsV_len,hn]
  have:=H.del_cell b 0 n cap i (i+1) (cellsV x.rows) w rfl hin hle h63 hcl (fun j v hj=>by rw [Nat.zero_add,cell_at hh]; exact hc j v hj) (fun j _=>unfrozen hh _) (cellsV_one _)
  rw [show (#[Value.slice (some ⟨b,0,none⟩) n cap] ++ #[.int .i64 (gd q 0).int,.int .i64 (gd r 0).int]:Array Value) = #[.slice (some ⟨b,0,none⟩) n cap,.int .i64 i,.int .i64 ((i+1:Nat):Int)] from by rw [hi,h3,hi]; rfl]
  refine this.mono ?_
  rintro ex w' ⟨rfl,rfl⟩
  have hdl:((cellsV x.rows).drop ((i+1)*2)).length=(n - (i+1))*2:=by rw [List.length_drop,hcl]; omega
  obtain ⟨arr1,a1,a2,a3,a4⟩:=setCells_heap b 53 (0,0) ((cellsV x.rows).drop ((i+1)*2)) (0+i*2) w.drew arr hh (by rw [hdl,hs]; omega)
  have hz:H.zc.cells.toList.length=2:=rfl
  obtain ⟨arr2,b1,b2,b3,b4⟩:=setCells_heap b 53 (0,0) H.zc.cells.toList (0+(n - 1)*2) _ arr1 a1 (by rw [hz,a2,hs]; omega)
  obtain ⟨c1,c2,c3,c4,c5⟩:=setCells_else b ((cellsV x.rows).drop ((i+1)*2)) (0+i*2) w.drew
  obtain ⟨d1,d2,d3,d4,d5⟩:=setCells_else b H.zc.cells.toList (0+(n - 1)*2) (w.drew.setCells b (0+i*2) ((cellsV x.rows).drop ((i+1)*2)))
  have hdr:(delRows x.rows i).length=n - 1:=by simp [delRows]; omega
  refine ⟨_,some b,rfl,⟨d1.trans c1,d2.trans c2,d3.trans c3,Nat.le_of_eq (d4.trans c4).symm,fun k _ hk=>(d5 k (fun e=>hk (by rw [e]))).trans (c5 k (fun e=>hk (by rw [e])))⟩,?_,fun b hb=>.inl hb⟩
  refine ownK_mk b1 hdr.symm (by rw [b2,a2,hs]) (by omega) h63 fun k v hk=>?_
  have hkl:=(List.getElem?_eq_some_iff.1 hk).1
  rw [cellsV_len,hdr] at hkl
  rw [b3 k (.inl (by omega))]
  unfold delRows at hk
  rw [cellsV_app,cellsV_take,cellsV_drop,List.getElem?_append] at hk
  have htl:((cellsV x.rows).take (i*2)).length=i*2:=by rw [List.length_take,hcl]; omega
  rw [htl] at hk
  split at hk
  ·rename_i hlt
   rw [a3 k (.inl (by omega))]
   rw [List.getElem?_take,if_pos hlt] at hk
   exact hc k v hk
  ·have:=a4 (k - i*2) v hk
   rwa [show 0+i*2+(k - i*2)=k from by omega] at this
theorem args_is {prot:Nat→Nat} {w:World} {q r:List D} {vs:Array Value} (h:ArgsV Try.prog prot w [⟨ri,q⟩,⟨sd (.sl 53),r⟩] vs):∃ u,vs = #[.int .i64 (gd q 0).int,u]∧VD Try.prog w prot (.sl 53) (gd r 0) u:=by
 obtain ⟨u,hu,hv⟩:=h.2 1 _ rfl
 refine ⟨u,?_,hv⟩
 refine args_at h [.int .i64 (gd q 0).int,u] rfl fun j t u' h1 h2=>?_
 match j,h1 with
 | 0,h1 =>
  injection h1 with h1; subst h1
  obtain ⟨u'',k1,k2⟩:=h.2 0 _ rfl
  rw [h2] at k1; injection k1 with k1; subst k1
  have:=vd_int (k:=.i64) (show VD Try.prog w prot (.int .i64) (gd q 0) u' from k2)
  rw [this]; rfl
 | 1,h1 =>
  rw [h2] at hu; injection hu with hu; subst hu
  rfl
theorem app_one {w:World} {rows:List (List D)} {r:List D} {base:Option Addr} {n c:Nat} {B:Option Nat} (hO:OwnK w 53 cellRow rows (.slice base n c) B) (vb voff vc:Nat) (hn:rows.length≤1000000)
  (hv:∀ (k:Nat) v,(cellsV [r])[k]?=some v→w.cell? ⟨vb,voff+k,none⟩=some v) :
  ∃ v' w1 B',(∀ ty,(Builtin.append_ #[27,27] ty #[.slice base n c,.slice (some ⟨vb,voff,none⟩) 1 vc]).run Try.prog w=.ok v' w1)∧Changed w w1 B∧OwnK w1 53 cellRow (rows ++ [r]) v' B'∧∀ b,B'=some b→B=some b∨w.heap.size≤b:=by
 obtain ⟨i0,hi0,hz0,hzs,hzb⟩:=info_parts H.info_cell
 have hl1:(cellsV [r]).length=1*i0.size:=by rw [hzs]; rfl
 have hnews:∀ (j:Nat) v,(cellsV [r])[j]?=some v→w.cell? ((⟨vb,voff,none⟩:Addr).add j)=some v:=fun j v hj=>by rw [Addr.add_lit]; exact hv j v hj
 have hzz:H.zc.cells.size=2:=rfl
 -- a new block
 have hnew:∀ (old:Nat),(w.drew.alloc (.cells ((cellsV rows).toArray++(cellsV [r]).toArray++Builtin.zeroCells H.zc.cells (grownCap w (rows.length+1) old 53 - (rows.length+1))) 53)).heap.size=w.heap.size+1 ∧
   Changed w (w.drew.alloc (.cells ((cellsV rows).toArray++(cellsV [r]).toArray++Builtin.zeroCells H.zc.cells (grownCap w (rows.length+1) old 53 - (rows.length+1))) 53)) B ∧
   OwnK (w.drew.alloc (.cells ((cellsV rows).toArray++(cellsV [r]).toArray++Builtin.zeroCells H.zc.cells (grownCap w (rows.length+1) old 53 - (rows.length+1))) 53)) 53 cellRow (rows ++ [r]) (.slice (some ⟨w.heap.size,0,none⟩) (rows.length+1) (grownCap w (rows.length+1) old 53)) (some w.heap.size):=by
  intro old
  have hge:=grownCap_ge w (rows.length+1) old 53
  have hcm:=grownCap_le_maxLen w (rows.length+1) old 53 (by unfold maxLen; omega)
  refine ⟨by simp [World.alloc],⟨rfl,rfl,rfl,by simp [World.alloc],fun k hk _=>Below.heap_alloc w.drew _ k hk⟩,ownK_mk (by letI:Low:=noLow; exact heap_new w.drew _) (by simp) ?_ (by simpa using hge) (by unfold maxLen at hcm; omega) fun k v hk=>?_⟩
  ·simp only [Array.size_append,List.size_toArray,cellsV_len,size_zeroCells,hzz,List.length_cons,List.length_nil]
   omega
  ·rw [cellsV_app] at hk
   have hkl:=(List.getElem?_eq_some_iff.1 hk).1
   rw [Array.getElem?_append_left (by simpa using hkl)]
   simpa using hk
 have hnot:B=none→rows = []∧n=0∧c=0:=by
  rintro rfl
  rcases hO with ⟨_,h0,A,hA⟩ | ⟨_,_,_,hb,_⟩
  ·injection hA with _ e1 e2; exact ⟨h0,e1,e2⟩
  ·cases hb
 rcases ownK_get hO with ⟨rfl,rfl,A,hA⟩ | ⟨b,cap,arr,rfl,hA,hle,h63,hh,hs,hc⟩
 ·injection hA with e0 e1 e2
  subst e0 e1 e2
  obtain ⟨_,q2,q3⟩:=hnew 0
  refine ⟨_,_,some w.heap.size,fun ty=>?_,q2,q3,fun b hb=>.inr (by injection hb with hb; omega)⟩
  cases base with
  | none =>
   have:=run_append_nil (P:=Try.prog) w 27 ty 53 i0 H.zc Try.underlying27 hi0 hz0 ⟨vb,voff,none⟩ 1 vc (cellsV [r]) hl1 hnews (by omega) (by omega) (by rw [hzb]; omega)
   rw [this]
   simp [cellsV]
  | some a =>
   have:=run_append_grow (P:=Try.prog) w 27 ty 53 i0 H.zc Try.underlying27 hi0 hz0 a 0 0 [] (by simp) (fun j v hj=>by simp at hj) ⟨vb,voff,none⟩ 1 vc (cellsV [r]) hl1 hnews (by omega) (by omega) (by rw [hzb]; exact growslice_fits (by omega) (by omega))
   rw [this]
   rfl
 ·injection hA with e0 e1 e2
  subst e0 e1 e2
  by_cases hroom:rows.length+1≤c
  ·have hfit:rows.length*i0.size+(cellsV [r]).length≤arr.size:=by rw [hzs,hs]; show _+2≤_; omega
   have hlv:(cellsV [r]).length=2:=rfl
   have hrl:(cellsV rows).length=rows.length*2:=cellsV_len rows
   refine ⟨_,_,some b,fun ty=>run_append_room (P:=Try.prog) w 27 ty 53 i0 Try.underlying27 hi0 b rows.length c arr hh ⟨vb,voff,none⟩ 1 vc (cellsV [r]) hl1 hnews (cellsV_one _) hroom hfit,⟨rfl,rfl,rfl,by simp,fun k _ hk=>setRow_other w b k _ (fun e=>hk (by rw [e]))⟩,?_,fun b hb=>.inl hb⟩
   refine ownK_mk (setRow_heap w b arr _ _ _ hh) (by simp) ?_ (by simpa using hroom) h63 fun k v hk=>?_
   ·simp only [List.size_toArray,List.length_append,List.length_take,List.length_drop,Array.length_toList,hlv,hzs]
    omega
   ·rw [cellsV_app,List.getElem?_append] at hk
    rw [List.getElem?_toArray,List.append_assoc,List.getElem?_append,hzs]
    have htl:(arr.toList.take (rows.length*2)).length=rows.length*2:=by
     have e0:arr.toList.length=arr.size:=Array.length_toList
     rw [List.length_take,e0,hs]
     omega
    rw [htl]
    rw [hrl] at hk
    split at hk
    ·rename_i hlt
     rw [if_pos hlt,List.getElem?_take,if_pos hlt,Array.getElem?_toList]
     exact hc k v (by exact hk)
    ·rename_i hge
     rw [if_neg hge,List.getElem?_append_left (List.getElem?_eq_some_iff.1 hk).1]
     exact hk
  ·obtain ⟨_,q2,q3⟩:=hnew c
   refine ⟨_,_,some w.heap.size,fun ty=>?_,q2,q3,fun b hb=>.inr (by injection hb with hb; omega)⟩
   exact run_append_grow (P:=Try.prog) w 27 ty 53 i0 H.zc Try.underlying27 hi0 hz0 ⟨b,0,none⟩ rows.length c (cellsV rows) (by rw [cellsV_len,hzs]) (fun j v hj=>by rw [Addr.add_lit,Nat.zero_add,cell_at hh]; exact hc j v hj) ⟨vb,voff,none⟩ 1 vc (cellsV [r]) hl1 hnews (by omega) (by omega) (by rw [hzb]; exact growslice_fits (by omega) (by omega))
def insRows (rows:List (List D)) (i:Nat) (r:List D):List (List D):=rows.take i++r::rows.drop i
theorem cellsV_ins (rows:List (List D)) (i:Nat) (r:List D) (hi:i≤rows.length) {k:Nat} {v:Value} (hk:(cellsV (insRows rows i r))[k]?=some v) :
  (k<i*2∧(cellsV rows)[k]?=some v)∨(i*2≤k∧k<(i+1)*2∧(cellsV [r])[k - i*2]?=some v)∨((i+1)*2≤k∧((cellsV rows).drop (i*2))[k - (i+1)*2]?=some v):=by
 have htl:((cellsV rows).take (i*2)).length=i*2:=by rw [List.length_take,cellsV_len]; omega
 unfold insRows at hk
 rw [cellsV_app,cellsV_take,show r::rows.drop i = [r]++rows.drop i from rfl,cellsV_app,cellsV_drop,List.getElem?_append,htl] at hk
 split at hk
 ·rename_i hlt
  rw [List.getElem?_take,if_pos hlt] at hk
  exact .inl ⟨hlt,hk⟩
 ·rename_i hge
  rw [List.getElem?_append] at hk
  split at hk
  ·rename_i hlt
   have hlt:k - i*2<2:=hlt
   exact .inr (.inl ⟨by omega,by omega,hk⟩)
  ·rename_i hge2
   have hge2:¬ k - i*2<2:=hge2
   refine .inr (.inr ⟨by omega,?_⟩)
   rw [show k - (i+1)*2=k - i*2 - (cellsV [r]).length from by show _=_ - 2; omega]
   exact hk
def i_insCE:Ent:=(55,e3 (sd (.sl 53)) ri (sd (.sl 53)) fun p q r=>(⟨.tup [.agg [.kb true]],[.l (insRows (gd p 0).rows (gd q 0).int.toNat ((gd r 0).rows.getD 0 []))]⟩,leI ((gd p 0).rows.length:Int) 1000000&&leI 0 (gd q 0).int&&leI (gd q 0).int ((gd p 0).rows.length:Int)&&((gd r 0).rows.length==1)))
theorem i_insC_ok:EntOk Try.prog i_insCE:=e3_ok fun p q r h=>by
 have h:(leI ((gd p 0).rows.length:Int) 1000000&&leI 0 (gd q 0).int&&leI (gd q 0).int ((gd p 0).rows.length:Int)&&((gd r 0).rows.length==1))=true:=h
 simp only [Bool.and_eq_true,leI,decide_eq_true_eq,beq_iff_eq] at h
 obtain ⟨⟨⟨h1,hq0⟩,hq1⟩,h3⟩:=h
 refine SoundFn.ofK rfl ⟨enters Try.func55 (by kernel_rfl) (by kernel_rfl),fun e x rest row he hrow hflat w prot u B vs hO hB hfr hargs hko=>?_⟩
 injection he with he hre
 injection he with he hp
 injection he with he
 injection he with he
 injection he with he
 injection he with he
 subst he hp hre
 rw [row_cell] at hrow
 injection hrow with hrow
 subst hrow
 obtain ⟨uv,rfl,hv⟩:=args_is (hargs w (Changed.refl w B))
 have h1:(x.rows.length:Int)≤1000000:=h1
 have hq1:(gd q 0).int≤(x.rows.length:Int):=hq1
 obtain ⟨r0,hr0⟩:∃ r0,(gd r 0).rows = [r0]:=List.length_eq_one_iff.1 h3
 obtain ⟨VA,vc,rfl,_,hvc63,hvp,hvr⟩:=vd_cells hv
 rw [hr0] at hvp hvr
 obtain ⟨vb,vo,rfl⟩:=hvp (by simp)
 have hvr:=hvr vb vo rfl
 obtain ⟨i,hi⟩:∃ i:Nat,(gd q 0).int=i:=⟨(gd q 0).int.toNat,by omega⟩
 have hout:(gd [D.l (insRows x.rows (gd q 0).int.toNat ((gd r 0).rows.getD 0 []))] 0).rows=insRows x.rows i r0:=by rw [hi,hr0]; rfl
 have hko:=hko rfl 1 _ _ _ rfl (by rw [hr0]; simp)
 obtain ⟨vb',varr,vE,hvb,hvh⟩:=hko
 injection hvb with hvb
 injection hvb with e1 e2 _
 subst e1 e2
 show Calls _ _ _ w fun ex w'=>∃ v' B',ex=.returned v'∧Changed w w' B∧OwnK w' _ _ (gd [D.l (insRows x.rows (gd q 0).int.toNat ((gd r 0).rows.getD 0 []))] 0).rows v' B'∧_
 rw [hout,hr0,hi]
 have hvs:∀ (k:Nat) v,(cellsV [r0])[k]?=some v→w.cell? ⟨vb,0+k,none⟩=some v:=fun k v hk=>(hvr k v hk).1
 have hpv:0<prot vb:=Nat.lt_of_le_of_lt (Nat.zero_le _) (hvr 0 _ rfl).2
 show Calls _ _ #[u,.int .i64 (i:Int),.slice (some ⟨vb,0,none⟩) 1 vc] w _
 by_cases hend:i=x.rows.length
 ·have hins:insRows x.rows i r0=x.rows ++ [r0]:=by unfold insRows; rw [hend]; simp
  rw [hins]
  have hform:∃ base c,u=.slice base x.rows.length c∧x.rows.length≤c∧c≤9223372036854775807∧(base=none→c=0):=by
   rcases ownK_get hO with ⟨_,h0,A,rfl⟩ | ⟨b,cap,arr,rfl,rfl,hle,h63,_⟩
   ·exact ⟨A,0,by rw [h0]; rfl,by rw [h0]; simp,by omega,fun _=>rfl⟩
   ·exact ⟨_,cap,rfl,hle,h63,fun h=>by cases h⟩
  obtain ⟨base,c,rfl,hle,h63,hbn⟩:=hform
  obtain ⟨v',w1,B',k1,k2,k3,k4⟩:=app_one hO vb 0 vc (by omega) hvs
  rw [hend]
  refine (H.ins_end base x.rows.length c vb 0 vc w w1 v' hle h63 hbn k1).mono ?_
  rintro ex w' ⟨rfl,rfl⟩
  exact ⟨_,B',rfl,k2,k3,k4⟩
 ·have hlt:i<x.rows.length:=by omega
  rcases ownK_get hO with ⟨_,h0,_⟩ | ⟨b,cap,arr,rfl,rfl,hle,h63,hh,hs,hc⟩
  ·rw [h0] at hlt; simp at hlt
  ·have hne:vb≠b:=by
    rintro rfl
    have:=hB vb rfl
    omega
   obtain ⟨n,hn⟩:∃ n,n=x.rows.length:=⟨_,rfl⟩
   rw [← hn] at hle hlt ⊢
   have hcl:(cellsV x.rows).length=n*2:=by rw [cellsV_len,hn]
   have hcs:∀ (j:Nat) v,(cellsV x.rows)[j]?=some v→w.cell? ⟨b,0+j,none⟩=some v:=fun j v hj=>by rw [Nat.zero_add,cell_at hh]; exact hc j v hj
   have hil:(insRows x.rows i r0).length=n+1:=by simp [insRows]; omega
   have hdl:((cellsV x.rows).drop (i*2)).length=(n - i)*2:=by rw [List.length_drop,hcl]; omega
   have hvl:(cellsV [r0]).length=2:=rfl
   by_cases hroom:n+1≤cap
   ·have:=H.ins_shift b 0 n cap i (i+1) vb 0 vc (cellsV x.rows) (cellsV [r0]) w rfl hlt hroom h63 hne hcl rfl hcs
     (fun j hj=>by rw [Nat.zero_add,cell_at hh,Array.getElem?_eq_getElem (by omega)]; rfl) (fun j _=>unfrozen hh _) hvs (cellsV_one _) (cellsV_one _) vE 53 varr.size arr.size (by simp [World.shape?,hvh]) (by simp [World.shape?,hh]) (by omega) (unfrozen hvh _) (unfrozen hvh _)
    refine this.mono ?_
    rintro ex w' ⟨rfl,rfl⟩
    obtain ⟨arr1,a1,a2,a3,a4⟩:=setCells_heap b 53 (0,0) ((cellsV x.rows).drop (i*2)) (0+(i+1)*2) w.drew arr hh (by rw [hdl,hs]; omega)
    obtain ⟨arr2,b1,b2,b3,b4⟩:=setCells_heap b 53 (0,0) (cellsV [r0]) (0+i*2) _ arr1 a1 (by rw [hvl,a2,hs]; omega)
    obtain ⟨c1,c2,c3,c4,c5⟩:=setCells_else b ((cellsV x.rows).drop (i*2)) (0+(i+1)*2) w.drew
    obtain ⟨d1,d2,d3,d4,d5⟩:=setCells_else b (cellsV [r0]) (0+i*2) (w.drew.setCells b (0+(i+1)*2) ((cellsV x.rows).drop (i*2)))
    refine ⟨_,some b,rfl,⟨d1.trans c1,d2.trans c2,d3.trans c3,Nat.le_of_eq (d4.trans c4).symm,fun k _ hk=>(d5 k (fun e=>hk (by rw [e]))).trans (c5 k (fun e=>hk (by rw [e])))⟩,?_,fun b hb=>.inl hb⟩
    refine ownK_mk b1 hil.symm (by rw [b2,a2,hs]) (by omega) h63 fun k v hk=>?_
    rcases cellsV_ins x.rows i r0 (by omega) hk with ⟨q1,q2⟩ | ⟨q1,q2,q3⟩ | ⟨q1,q2⟩
    ·rw [b3 k (.inl (by omega)),a3 k (.inl (by omega))]
     exact hc k v q2
    ·have:=b4 _ v q3
     rwa [show 0+i*2+(k - i*2)=k from by omega] at this
    ·rw [b3 k (.inr (by rw [hvl]; omega))]
     have:=a4 _ v q2
     rwa [show 0+(i+1)*2+(k - (i+1)*2)=k from by omega] at this
   ·obtain rfl:cap=n:=by omega
    have:=H.ins_grow b 0 cap i (i+1) vb 0 vc (cellsV x.rows) (cellsV [r0]) w rfl hlt (by omega) hcl rfl hcs hvs (cellsV_one _) (cellsV_one _)
    refine this.mono ?_
    rintro ex w' ⟨rfl,rfl⟩
    have hge:=grownCap_ge w (cap+1) cap 53
    have hcm:=grownCap_le_maxLen w (cap+1) cap 53 (by unfold maxLen; omega)
    obtain ⟨G,hG⟩:∃ G,G=grownCap w (cap+1) cap 53:=⟨_,rfl⟩
    rw [← hG] at hge hcm ⊢
    have hzz:H.zc.cells.size=2:=rfl
    obtain ⟨ROW,hROW⟩:∃ ROW:Array Value,ROW=((cellsV x.rows).take (i*2)).toArray++Builtin.zeroCells H.zc.cells (cap+1 - i)++Builtin.zeroCells H.zc.cells (G - (cap+1)):=⟨_,rfl⟩
    have htl:((cellsV x.rows).take (i*2)).length=i*2:=by rw [List.length_take,hcl]; omega
    have hRs:ROW.size=G*2:=by
     rw [hROW]
     simp only [Array.size_append,List.size_toArray,htl,size_zeroCells,hzz]
     omega
    have hRt:∀ (k:Nat) v,k<i*2→(cellsV x.rows)[k]?=some v→ROW[k]?=some v:=fun k v hk hv=>by
     rw [hROW,Array.append_assoc,Array.getElem?_append_left (by simp only [List.size_toArray,htl]; exact hk)]
     simp [List.getElem?_take,hk,hv]
    rw [← hROW]
    have hW:((w.alloc (.cells ROW 53)).drew).heap[w.heap.size]?=some (.cells ROW 53 (0,0)):=by letI:Low:=noLow; exact heap_new w _
    obtain ⟨arr1,a1,a2,a3,a4⟩:=setCells_heap w.heap.size 53 (0,0) (cellsV [r0]) (i*2) _ ROW hW (by rw [hvl,hRs]; omega)
    obtain ⟨arr2,b1,b2,b3,b4⟩:=setCells_heap w.heap.size 53 (0,0) ((cellsV x.rows).drop (i*2)) ((i+1)*2) ((((w.alloc (.cells ROW 53)).drew).setCells w.heap.size (i*2) (cellsV [r0])).drew) arr1 a1 (by rw [hdl,a2,hRs]; omega)
    obtain ⟨c1,c2,c3,c4,c5⟩:=setCells_else w.heap.size (cellsV [r0]) (i*2) ((w.alloc (.cells ROW 53)).drew)
    obtain ⟨d1,d2,d3,d4,d5⟩:=setCells_else w.heap.size ((cellsV x.rows).drop (i*2)) ((i+1)*2) ((((w.alloc (.cells ROW 53)).drew).setCells w.heap.size (i*2) (cellsV [r0])).drew)
    refine ⟨_,some w.heap.size,rfl,⟨d1.trans c1,d2.trans c2,d3.trans c3,?_,fun k hk _=>(d5 k (by omega)).trans ((c5 k (by omega)).trans (Below.heap_alloc w _ k hk))⟩,?_,fun b hb=>.inr (by injection hb with hb; omega)⟩
    ·refine Nat.le_trans ?_ (Nat.le_of_eq (d4.trans c4).symm)
     show w.heap.size≤(w.heap.push _).size
     rw [Array.size_push]
     omega
    ·refine ownK_mk b1 hil.symm (by rw [b2,a2,hRs]) (by omega) (by unfold maxLen at hcm; omega) fun k v hk=>?_
     rcases cellsV_ins x.rows i r0 (by omega) hk with ⟨q1,q2⟩ | ⟨q1,q2,q3⟩ | ⟨q1,q2⟩
     ·rw [b3 k (.inl (by omega)),a3 k (.inl (by omega))]
      exact hRt k v q1 q2
     ·rw [b3 k (.inl (by omega))]
      have:=a4 _ v q3
      rwa [show i*2+(k - i*2)=k from by omega] at this
     ·have:=b4 _ v q2
      rwa [show (i+1)*2+(k - (i+1)*2)=k from by omega] at this
end Go.Proofs.Ytecefnhhlaolmaa
namespace Go.Proofs.Ytecefnhhlaolmaa
set_option maxRecDepth 4096
set_option maxHeartbeats 1000000
abbrev i_putT:FuncId→List T→Option (T × Bool):=find [i_cellForWE,i_clonCE,i_delCE,i_insCE]
theorem i_putT_ok:CallOk Try.prog i_putT:=find_ok (fC ⟨i_cellForW_ok,fC ⟨i_clonC_ok,fC ⟨i_delC_ok,fC ⟨i_insC_ok,fN⟩⟩⟩⟩)
abbrev i_putK:List Nat:= [0,1,2,6,7,8,9,16,28,33]
theorem i_put_ev (N:Nat) (p q r:List D):evFn Try.prog i_putT N i_putK Try.f37 (.one (.c (.own (0,0) true 53))) [⟨sd (.sl 53),p⟩,⟨ri,q⟩,⟨ri,r⟩]=some (bo,
 nd (cellsUp (gd p 0)&&inB (gd q 0).int 0 999) (bif (gd r 0).int==(-1) then bif bsB (gd p 0) (gd q 0).int then nd (leI ((gd p 0).rows.length:Int) 1000000) (nd (leI ((gd p 0).rows.length:Int) 1000000&&inRange (lowN (gd p 0) (gd q 0).int:Int) (gd p 0).rows.length&&((w64 ((lowN (gd p 0) (gd q 0).int:Int)+1))==(lowN (gd p 0) (gd q 0).int:Int)+1)) (some (1,[.l (delRows (gd p 0).rows (lowN (gd p 0) (gd q 0).int:Int).toNat)])))
 else bif (gd r 0).int==(-1) then nd (leI ((gd p 0).rows.length:Int) 1000000) (some (1,[.l (gd p 0).rows]))
 else bif bsB (gd p 0) (gd q 0).int then nd (leI ((gd p 0).rows.length:Int) 1000000) (nd (inRange (lowN (gd p 0) (gd q 0).int:Int) (gd p 0).rows.length) (some (1,[.l ((gd p 0).rows.set (lowN (gd p 0) (gd q 0).int:Int).toNat [gd ((gd p 0).rows.getD (lowN (gd p 0) (gd q 0).int:Int).toNat []) 0,gd r 0])])))
 else nd (leI ((gd p 0).rows.length:Int) 1000000) (nd (leI ((gd p 0).rows.length:Int) 1000000&&leI 0 (lowN (gd p 0) (gd q 0).int:Int)&&leI (lowN (gd p 0) (gd q 0).int:Int) ((gd p 0).rows.length:Int)&&([[gd q 0,gd r 0]].length==1)) (some (1,[.l (insRows (gd p 0).rows (lowN (gd p 0) (gd q 0).int:Int).toNat ([[gd q 0,gd r 0]].getD 0 []))])))
 else bif (gd r 0).int==(-1) then nd (leI ((gd p 0).rows.length:Int) 1000000) (some (1,[.l (gd p 0).rows]))
 else bif bsB (gd p 0) (gd q 0).int then nd (leI ((gd p 0).rows.length:Int) 1000000) (nd (inRange (lowN (gd p 0) (gd q 0).int:Int) (gd p 0).rows.length) (some (1,[.l ((gd p 0).rows.set (lowN (gd p 0) (gd q 0).int:Int).toNat [gd ((gd p 0).rows.getD (lowN (gd p 0) (gd q 0).int:Int).toNat []) 0,gd r 0])])))
 else nd (leI ((gd p 0).rows.length:Int) 1000000) (nd (leI ((gd p 0).rows.length:Int) 1000000&&leI 0 (lowN (gd p 0) (gd q 0).int:Int)&&leI (lowN (gd p 0) (gd q 0).int:Int) ((gd p 0).rows.length:Int)&&([[gd q 0,gd r 0]].length==1)) (some (1,[.l (insRows (gd p 0).rows (lowN (gd p 0) (gd q 0).int:Int).toNat ([[gd q 0,gd r 0]].getD 0 []))]))))):=by kernel_rfl
theorem cnt_leW {C:Nat→Bool}:∀ m k,cnt C k m≤m
 | 0,_=>Nat.le_refl _
 | m+1,k=>by
  have:=cnt_leW (C:=C) m k
  rw [cnt_succ]
  cases C (k+m) <;> simp <;> omega
theorem low_le (z:D) (t:Int):lowN z t≤z.rows.length:=cnt_leW _ _
theorem bs_lt {z:D} {t:Int} (h:bsB z t=true):lowN z t<z.rows.length:=by
 simp only [bsB,Bool.and_eq_true,ltI,decide_eq_true_eq] at h
 omega
def putRaw (z k v:D):D:=bif bsB z k.int then (bif v.int == -1 then .l (delRows z.rows (lowN z k.int)) else .l (z.rows.set (lowN z k.int) [gd (z.rows.getD (lowN z k.int) []) 0,v])) else (bif v.int == -1 then .l z.rows else .l (insRows z.rows (lowN z k.int) [k,v]))
def i_putE:Ent:=(37,e3 (sd (.sl 53)) ri ri fun p q r=>(⟨.one (.c (.own (0,0) true 53)),[putRaw (gd p 0) (gd q 0) (gd r 0)]⟩,cellsUp (gd p 0)&&inB (gd q 0).int 0 999))
theorem i_put_ok:EntOk Try.prog i_putE:=e3_ok fun p q r h=>evFn_sound (N:=0) (ks:=i_putK) (key:=bo) i_putT_ok (enters Try.func37) Try.func37 fun hw=>by
 rw [i_put_ev]
 have h:(cellsUp (gd p 0)&&inB (gd q 0).int 0 999)=true:=h
 rw [h,nd_true]
 simp only [Bool.and_eq_true] at h
 have hz:=up_sorted h.1
 have hl:=hz.len
 have hlow:=low_le (gd p 0) (gd q 0).int
 have h1:leI ((gd p 0).rows.length:Int) 1000000=true:=leI_t (by omega)
 have h3:leI (lowN (gd p 0) (gd q 0).int:Int) ((gd p 0).rows.length:Int)=true:=leI_t (by omega)
 have h4:w64 ((lowN (gd p 0) (gd q 0).int:Int)+1)=(lowN (gd p 0) (gd q 0).int:Int)+1:=w64_id (by omega) (by omega)
 unfold putRaw
 simp only [h1,leI_0,h3,h4,nd_true,Int.toNat_natCast,Bool.true_and,beq_self_eq_true,Bool.and_true]
 cases hb:bsB (gd p 0) (gd q 0).int
 ·cases (gd r 0).int == -1 <;> rfl
 ·rw [inRange_nat (bs_lt hb)]
  cases (gd r 0).int == -1 <;> rfl
abbrev s_l2CellsT:FuncId→List T→Option (T × Bool):=find []
theorem s_l2CellsT_ok:CallOk Try.prog s_l2CellsT:=find_ok (fN)
abbrev s_l2CellsK:List Nat:= [0,1,2,3,8,9,10,11,18,31,44,53,3000008]
noncomputable def s_l2CellsL0 (N:Nat) (p q r s:List D):List D→Out:=loopOf Try.prog s_l2CellsT N s_l2CellsK Try.f62 (.one (.c (.own (0,0) true 53))) [⟨sd (.sl 53),p⟩,⟨ri,q⟩,⟨ri,r⟩,⟨rb,s⟩] 0
theorem s_l2CellsR0 (N:Nat) (p q r s:List D) (x0 x1 x2 x3 x4 x5 x6 x7:D):(s_l2CellsL0 N p q r s) [x0,x1,x2,x3,x4,x5,x6,x7] =
 bif ltI x7.int (x0.rows.length:Int) then bif !x6.bool then nd (inRange x7.int x0.rows.length) (bif leI x1.int (gd (x0.rows.getD x7.int.toNat []) 0).int then nd (lenOk (x5.rows ++ [[x1,x2]])&&true) ((let r8:Out:=nx [x0,x1,x2,x3,x4,.l (x5.rows ++ [[x1,x2]]),.b true,x7,.b (ltI x7.int (x0.rows.length:Int)),.b (leI x1.int (gd (x0.rows.getD x7.int.toNat []) 0).int)]
  nd r8.isSome (nd (inRange (gd r8.pay 7).int (gd r8.pay 0).rows.length) (bif (gd ((gd r8.pay 0).rows.getD (gd r8.pay 7).int.toNat []) 0).int != (gd r8.pay 1).int then nd (inRange (gd r8.pay 7).int (gd r8.pay 0).rows.length) (nd (lenOk ((gd r8.pay 5).rows ++ [sub ((gd r8.pay 0).rows.getD (gd r8.pay 7).int.toNat []) 0 2])&&true) (nx [gd r8.pay 0,gd r8.pay 1,gd r8.pay 2,gd r8.pay 3,gd r8.pay 4,.l ((gd r8.pay 5).rows ++ [sub ((gd r8.pay 0).rows.getD (gd r8.pay 7).int.toNat []) 0 2]),gd r8.pay 6,.i (w64 ((gd r8.pay 7).int+1))]))
  else nx [gd r8.pay 0,gd r8.pay 1,gd r8.pay 2,gd r8.pay 3,gd r8.pay 4,gd r8.pay 5,gd r8.pay 6,.i (w64 ((gd r8.pay 7).int+1))]))))
 else nd (inRange x7.int x0.rows.length) (bif (gd (x0.rows.getD x7.int.toNat []) 0).int != x1.int then nd (inRange x7.int x0.rows.length) (nd (lenOk (x5.rows ++ [sub (x0.rows.getD x7.int.toNat []) 0 2])&&true) (nx [x0,x1,x2,x3,x4,.l (x5.rows ++ [sub (x0.rows.getD x7.int.toNat []) 0 2]),x6,.i (w64 (x7.int+1))]))
 else nx [x0,x1,x2,x3,x4,x5,x6,.i (w64 (x7.int+1))]))
 else nd (inRange x7.int x0.rows.length) (bif (gd (x0.rows.getD x7.int.toNat []) 0).int != x1.int then nd (inRange x7.int x0.rows.length) (nd (lenOk (x5.rows ++ [sub (x0.rows.getD x7.int.toNat []) 0 2])&&true) (nx [x0,x1,x2,x3,x4,.l (x5.rows ++ [sub (x0.rows.getD x7.int.toNat []) 0 2]),x6,.i (w64 (x7.int+1))]))
 else nx [x0,x1,x2,x3,x4,x5,x6,.i (w64 (x7.int+1))])
 else ex 0 [x0,x1,x2,x3,x4,x5,x6,x7]:=by kernel_rfl
theorem s_l2Cells_ev (N:Nat) (p q r s:List D):evFn Try.prog s_l2CellsT N s_l2CellsK Try.f62 (.one (.c (.own (0,0) true 53))) [⟨sd (.sl 53),p⟩,⟨ri,q⟩,⟨ri,r⟩,⟨rb,s⟩]=some (bo,
 (let o0:=iter (s_l2CellsL0 N p q r s) N [gd p 0,gd q 0,gd r 0,gd s 0,.l [],.l [],.b (!(gd s 0).bool),.i 0]
  nd o0.isSome (nd (o0.code==2) (bif !(gd o0.pay 6).bool then nd (lenOk ((gd o0.pay 5).rows ++ [sub o0.pay 1 2])&&true) (some (1,[.l ((gd o0.pay 5).rows ++ [sub o0.pay 1 2])]))
  else some (1,[gd o0.pay 5]))))):=by kernel_rfl
def stepL (k v:D) (st:List (List D) × Bool) (r:List D):List (List D) × Bool:=
 (bif (gd r 0).int != k.int then (bif !st.2&&leI k.int (gd r 0).int then st.1 ++ [[k,v]] else st.1) ++ [sub r 0 2] else (bif !st.2&&leI k.int (gd r 0).int then st.1 ++ [[k,v]] else st.1),st.2||leI k.int (gd r 0).int)
def accL (z k v:D) (keep:Bool) (n:Nat):List (List D) × Bool:=(z.rows.take n).foldl (stepL k v) ([],!keep)
theorem accL_succ (z k v:D) (keep:Bool) {n:Nat} (h:n<z.rows.length):accL z k v keep (n+1)=stepL k v (accL z k v keep n) (z.rows.getD n []):=by
 unfold accL
 rw [List.take_add_one,List.foldl_append,List.getElem?_eq_getElem h,List.getD_eq_getElem?_getD,List.getElem?_eq_getElem h]
 rfl
theorem accL_len (z k v:D) (keep:Bool):∀ n,n≤z.rows.length→(accL z k v keep n).1.length≤2*n
 | 0,_=>by simp [accL]
 | n+1,h=>by
  rw [accL_succ z k v keep (by omega)]
  have:=accL_len z k v keep n (by omega)
  unfold stepL
  generalize accL z k v keep n=A at *
  cases !A.2&&leI k.int (gd (z.rows.getD n []) 0).int <;> cases (gd (z.rows.getD n []) 0).int != k.int <;> simp <;> omega
def l2Raw (z k v:D) (keep:Bool):D:=.l (bif !(accL z k v keep z.rows.length).2 then (accL z k v keep z.rows.length).1 ++ [[k,v]] else (accL z k v keep z.rows.length).1)
def s_l2CellsE:Ent:=(62,e4 (sd (.sl 53)) ri ri rb fun p q r s=>(⟨.one (.c (.own (0,0) true 53)),[l2Raw (gd p 0) (gd q 0) (gd r 0) (gd s 0).bool]⟩,leI ((gd p 0).rows.length:Int) 1000000))
theorem s_l2Cells_ok:EntOk Try.prog s_l2CellsE:=e4_ok fun p q r s h=>evFn_sound (N:=(gd p 0).rows.length+1) (ks:=s_l2CellsK) (key:=bo) s_l2CellsT_ok (enters Try.func62) Try.func62 fun hw=>by
 rw [s_l2Cells_ev]
 have h:leI ((gd p 0).rows.length:Int) 1000000=true:=h
 simp only [leI,decide_eq_true_eq] at h
 have e:=run_loop (L:=s_l2CellsL0 ((gd p 0).rows.length+1) p q r s) (fun n => [gd p 0,gd q 0,gd r 0,gd s 0,.l [],.l (accL (gd p 0) (gd q 0) (gd r 0) (gd s 0).bool n).1,.b (accL (gd p 0) (gd q 0) (gd r 0) (gd s 0).bool n).2,.i (n:Int)]) (gd p 0).rows.length 0 (fun k hk=>?_) ?_ (N:=(gd p 0).rows.length+1) (by omega)
 ·simp only [Int.natCast_zero] at e
  rw [show (accL (gd p 0) (gd q 0) (gd r 0) (gd s 0).bool 0)=([],!(gd s 0).bool) from rfl] at e
  rw [e]
  have hA:=accL_len (gd p 0) (gd q 0) (gd r 0) (gd s 0).bool _ (Nat.le_refl _)
  simp only [nd,cond_true,cond_false,Option.isSome_some,Out.code,Out.pay,Option.getD_some,gd_cons_zero,gd_cons_succ,Nat.reduceBEq,Nat.reduceAdd,int_i,bool_b,str_s,rows_l,Bool.not_true,Bool.not_false,beq_self_eq_true]
  unfold l2Raw
  generalize accL (gd p 0) (gd q 0) (gd r 0) (gd s 0).bool (gd p 0).rows.length=A at *
  have hA2:lenOk (A.1 ++ [[gd q 0,gd r 0]])=true:=lenOk_t (by simp; omega)
  cases A.2
  ·change some (bo,bif lenOk (A.1 ++ [[gd q 0,gd r 0]])&&true then some (1,[D.l (A.1 ++ [[gd q 0,gd r 0]])]) else none)=_
   rw [hA2]
   rfl
  ·rfl
 ·show s_l2CellsL0 _ p q r s [_,_,_,_,_,_,_,.i (k:Int)]=_
  rw [s_l2CellsR0,accL_succ _ _ _ _ hk]
  have hA:=accL_len (gd p 0) (gd q 0) (gd r 0) (gd s 0).bool k (by omega)
  generalize accL (gd p 0) (gd q 0) (gd r 0) (gd s 0).bool k=A at *
  have hA1:∀ x,lenOk (A.1 ++ [x])=true:=fun x=>lenOk_t (by simp; omega)
  have hA2:∀ x y,lenOk (A.1 ++ [x] ++ [y])=true:=fun x y=>lenOk_t (by simp; omega)
  simp only [int_i,bool_b,rows_l,c_lt hk,nd_ix hk,w64_succ hk (show (gd p 0).rows.length≤9223372036854775807 from by omega),Int.toNat_natCast,stepL,hA1,Bool.and_true,nd_true]
  cases A.2 <;> cases leI (gd q 0).int (gd ((gd p 0).rows.getD k []) 0).int <;> cases hn:(gd ((gd p 0).rows.getD k []) 0).int != (gd q 0).int <;> simp only [nd,cond_true,cond_false,Option.isSome_some,Out.code,Out.pay,Option.getD_some,gd_cons_zero,gd_cons_succ,Nat.reduceBEq,Nat.reduceAdd,int_i,bool_b,str_s,rows_l,Bool.not_true,Bool.not_false,beq_self_eq_true,hA1,hA2,hn,inRange_nat hk,Int.toNat_natCast,Bool.and_true,Bool.and_false,Bool.false_and,Bool.true_and,Bool.or_true,Bool.or_false,Bool.true_or,Bool.false_or,w64_succ hk (show (gd p 0).rows.length≤9223372036854775807 from by omega)]
 ·show s_l2CellsL0 _ p q r s [_,_,_,_,_,_,_,.i ((gd p 0).rows.length:Int)]=_
  rw [s_l2CellsR0]
  simp only [int_i,c_nlt]
end Go.Proofs.Ytecefnhhlaolmaa
namespace Go.Proofs.Ytecefnhhlaolmaa
def pr (r:List D):Int × Int:=((gd r 0).int,(gd r 1).int)
def prs (z:D):List (Int × Int):=z.rows.map pr
def prD (xs:List (Int × Int)):D:=.l (xs.map fun a => [.i a.1,.i a.2])
theorem prs_prD (xs:List (Int × Int)):prs (prD xs)=xs:=by
 unfold prs prD
 show ((xs.map _).map pr)=xs
 rw [List.map_map]
 have:(pr ∘ fun a:Int × Int => [D.i a.1,D.i a.2])=id:=by funext a; rfl
 rw [this,List.map_id]
theorem prs_len (z:D):(prs z).length=z.rows.length:=by simp [prs]
theorem prs_at (z:D) (i:Nat) (h:i<z.rows.length):(prs z)[i]'(by rw [prs_len]; exact h)=(keyAt z i,(gd (z.rows.getD i []) 1).int):=by
 simp [prs,pr,keyAt,List.getD_eq_getElem?_getD,List.getElem?_eq_getElem h]
theorem pr_sub (r:List D):pr (sub r 0 2)=pr r:=rfl
def upL (xs:List (Int × Int)):Prop:=xs.Pairwise (fun a b=>a.1<b.1)∧∀ a∈xs,0≤a.1∧a.1≤999
theorem SortedW.upL {z:D} (h:SortedW z):upL (prs z):=by
 refine ⟨List.pairwise_iff_getElem.2 fun i j hi hj hij=>?_,fun a ha=>?_⟩
 ·have hi':i<z.rows.length:=by rwa [prs_len] at hi
  have hj':j<z.rows.length:=by rwa [prs_len] at hj
  rw [prs_at z i hi',prs_at z j hj']
  exact h.lt i j hij hj'
 ·obtain ⟨i,hi,rfl⟩:=List.mem_iff_getElem.1 ha
  have hi':i<z.rows.length:=by rwa [prs_len] at hi
  rw [prs_at z i hi']
  exact h.key i hi'
theorem up_len {xs:List (Int × Int)} (h:upL xs):xs.length≤1000:=by
 have hk:∀ i (hi:i<xs.length),(i:Int)≤(xs[i]).1:=by
  intro i
  induction i with
  | zero=>intro hi; exact (h.2 _ (List.getElem_mem hi)).1
  | succ i ih =>
   intro hi
   have h1:=ih (by omega)
   have h2:=List.pairwise_iff_getElem.1 h.1 i (i+1) (by omega) hi (by omega)
   omega
 rcases Nat.lt_or_ge 1000 xs.length with hlt | hge
 ·have h1:=hk 1000 hlt
  have h2:=(h.2 _ (List.getElem_mem hlt)).2
  omega
 ·exact hge
theorem sorted_of {z:D} (h:upL (prs z)):SortedW z:=by
 refine ⟨by rw [← prs_len]; exact up_len h,fun k hk=>?_,fun i j hij hj=>?_⟩
 ·have:=h.2 _ (List.getElem_mem (show k<(prs z).length from by rw [prs_len]; exact hk))
  rw [prs_at z k hk] at this
  exact this
 ·have:=List.pairwise_iff_getElem.1 h.1 i j (by rw [prs_len]; omega) (by rw [prs_len]; exact hj) hij
  rw [prs_at z i (by omega),prs_at z j hj] at this
  exact this
theorem up_iff {z:D}:cellsUp z=true↔upL (prs z):=⟨fun h=>(up_sorted h).upL,fun h=>sorted_up (sorted_of h)⟩
def lessK (k:Int) (xs:List (Int × Int)):List (Int × Int):=xs.filter fun a=>decide (a.1<k)
def moreK (k:Int) (xs:List (Int × Int)):List (Int × Int):=xs.filter fun a=>decide (k<a.1)
def putP (xs:List (Int × Int)) (k v:Int) (keep:Bool):List (Int × Int):=lessK k xs++(bif keep then [(k,v)] else [])++moreK k xs
theorem putP_up {xs:List (Int × Int)} (h:upL xs) {k:Int} (hk:0≤k∧k≤999) (v:Int) (keep:Bool):upL (putP xs k v keep):=by
 have hl:∀ a∈lessK k xs,a.1<k:=fun a ha=>by simpa using (List.mem_filter.1 ha).2
 have hm:∀ a∈moreK k xs,k<a.1:=fun a ha=>by simpa using (List.mem_filter.1 ha).2
 have pl:(lessK k xs).Pairwise (fun a b=>a.1<b.1):=h.1.filter _
 have pm:(moreK k xs).Pairwise (fun a b=>a.1<b.1):=h.1.filter _
 unfold putP
 refine ⟨?_,?_⟩
 ·refine List.pairwise_append.2 ⟨List.pairwise_append.2 ⟨pl,by cases keep <;> simp,fun a ha b hb=>?_⟩,pm,fun a ha b hb=>?_⟩
  ·cases keep with
   | true=>simp only [cond_true,List.mem_singleton] at hb; subst hb; exact hl a ha
   | false=>simp at hb
  ·rcases List.mem_append.1 ha with ha | ha
   ·have:=hl a ha; have:=hm b hb; omega
   ·cases keep with
    | true=>simp only [cond_true,List.mem_singleton] at ha; subst ha; exact hm b hb
    | false=>simp at ha
 ·intro a ha
  rcases List.mem_append.1 ha with ha | ha
  ·rcases List.mem_append.1 ha with ha | ha
   ·exact h.2 a (List.mem_filter.1 ha).1
   ·cases keep with
    | true=>simp only [cond_true,List.mem_singleton] at ha; subst ha; exact hk
    | false=>simp at ha
  ·exact h.2 a (List.mem_filter.1 ha).1
theorem more_all {xs:List (Int × Int)} {k:Int} (h:∀ a∈xs,k<a.1):moreK k xs=xs∧lessK k xs = []:=by
 refine ⟨List.filter_eq_self.2 fun a ha=>by simpa using h a ha,List.filter_eq_nil_iff.2 fun a ha=>?_⟩
 have:=h a ha
 simp; omega
theorem cnt_filterU (f:List D→Bool) (rows:List (List D)):∀ m,m≤rows.length→cnt (fun k=>f (rows.getD k [])) 0 m=((rows.take m).filter f).length
 | 0,_=>by simp [cnt]
 | m+1,h=>by
  rw [cnt_succ,cnt_filterU f rows m (by omega),List.take_add_one,List.getElem?_eq_getElem (by omega),List.filter_append,List.length_append,Nat.zero_add,List.getD_eq_getElem?_getD,List.getElem?_eq_getElem (by omega)]
  congr 1
  simp only [Option.getD_some,Option.toList_some,List.filter_cons,List.filter_nil]
  cases f rows[m] <;> rfl
theorem low_less {z:D} (t:Int):lowN z t=(lessK t (prs z)).length:=by
 unfold lowN lessK prs
 rw [List.filter_map,List.length_map]
 have:=cnt_filterU (fun r=>decide ((gd r 0).int<t)) z.rows z.rows.length (Nat.le_refl _)
 rw [List.take_length] at this
 exact this
theorem rise_split0 {xs:List (Int × Int)} (h:xs.Pairwise (fun a b=>a.1<b.1)) (k:Int):xs=lessK k xs++(xs.filter fun a=>a.1==k)++moreK k xs:=by
 induction xs with
 | nil=>rfl
 | cons a xs ih =>
  rw [List.pairwise_cons] at h
  have:=ih h.2
  unfold lessK moreK at *
  rw [List.filter_cons,List.filter_cons,List.filter_cons]
  rcases Int.lt_trichotomy a.1 k with hlt | he | hgt
  ·rw [if_pos (by simpa using hlt),if_neg (by simp; omega),if_neg (by simp; omega)]
   rw [List.cons_append,List.cons_append,← this]
  ·rw [if_neg (by simp; omega),if_pos (by simpa using he),if_neg (by simp; omega)]
   have hall:∀ b∈xs,k<b.1:=fun b hb=>by have:=h.1 b hb; omega
   obtain ⟨q1,q2⟩:=more_all hall
   unfold moreK at q1
   unfold lessK at q2
   rw [q1,q2,show (xs.filter fun a=>a.1==k) = [] from List.filter_eq_nil_iff.2 fun b hb=>by have:=hall b hb; simp; omega]
   rfl
  ·rw [if_neg (by simp; omega),if_neg (by simp; omega),if_pos (by simpa using hgt)]
   have hall:∀ b∈xs,k<b.1:=fun b hb=>by have:=h.1 b hb; omega
   obtain ⟨q1,q2⟩:=more_all hall
   unfold moreK at q1
   unfold lessK at q2
   rw [q1,q2,show (xs.filter fun a=>a.1==k) = [] from List.filter_eq_nil_iff.2 fun b hb=>by have:=hall b hb; simp; omega]
   rfl
theorem rise_split {xs:List (Int × Int)} (h:upL xs) (k:Int):xs=lessK k xs++(xs.filter fun a=>a.1==k)++moreK k xs:=rise_split0 h.1 k
theorem bs_yes {z:D} (h:SortedW z) {t:Int} (hb:bsB z t=true):∃ v,((prs z).filter fun a=>a.1==t) = [(t,v)]:=by
 have hlt:=bs_lt hb
 have hk:keyAt z (lowN z t)=t:=by
  simp only [bsB,Bool.and_eq_true,beq_iff_eq] at hb
  exact hb.2
 have hu:=h.upL
 refine ⟨(gd (z.rows.getD (lowN z t) []) 1).int,?_⟩
 have hmem:(t,(gd (z.rows.getD (lowN z t) []) 1).int)∈(prs z).filter fun a=>a.1==t:=by
  refine List.mem_filter.2 ⟨?_,by simp⟩
  have:=prs_at z _ hlt
  rw [hk] at this
  rw [← this]
  exact List.getElem_mem _
 have hp:((prs z).filter fun a=>a.1==t).Pairwise (fun a b=>a.1<b.1):=hu.1.filter _
 have hall:∀ a∈(prs z).filter fun a=>a.1==t,a.1=t:=fun a ha=>by simpa using (List.mem_filter.1 ha).2
 generalize ((prs z).filter fun a=>a.1==t)=l at *
 match l with
 | []=>simp at hmem
 | [a]=>simp only [List.mem_singleton] at hmem; rw [hmem]
 | a::b::l =>
  rw [List.pairwise_cons] at hp
  have h1:=hp.1 b (by simp)
  have h2:=hall a (by simp)
  have h3:=hall b (by simp)
  omega
theorem bs_no {z:D} (h:SortedW z) {t:Int} (hb:bsB z t=false):((prs z).filter fun a=>a.1==t) = []:=by
 refine List.filter_eq_nil_iff.2 fun a ha he=>?_
 have he:a.1=t:=by simpa using he
 obtain ⟨i,hi,rfl⟩:=List.mem_iff_getElem.1 ha
 have hi':i<z.rows.length:=by rwa [prs_len] at hi
 rw [prs_at z i hi'] at he
 have he:keyAt z i=t:=he
 have hl:lowN z t=i:=lowN_eq (by omega) (fun k hk=>by have:=h.lt k i hk hi'; omega) (fun k h1 h2=>by
  rcases Nat.lt_or_ge i k with hik | hik
  ·have:=h.lt i k hik h2; omega
  ·obtain rfl:k=i:=by omega
   omega)
 unfold bsB at hb
 rw [hl,ltI_nat hi',he,beq_self_eq_true] at hb
 cases hb
theorem take_low {z:D} (h:SortedW z) (t:Int):(prs z).take (lowN z t)=lessK t (prs z):=by
 have:=rise_split h.upL t
 rw [low_less]
 have e:=congrArg (List.take (lessK t (prs z)).length) this
 rw [e,List.append_assoc]
 exact List.take_left' rfl
theorem drop_no {z:D} (h:SortedW z) {t:Int} (hb:bsB z t=false):(prs z).drop (lowN z t)=moreK t (prs z):=by
 have:=rise_split h.upL t
 rw [bs_no h hb,List.append_nil] at this
 rw [low_less]
 have e:=congrArg (List.drop (lessK t (prs z)).length) this
 rw [e]
 exact List.drop_left' rfl
theorem drop_yes {z:D} (h:SortedW z) {t:Int} (hb:bsB z t=true):(prs z).drop (lowN z t+1)=moreK t (prs z):=by
 have:=rise_split h.upL t
 obtain ⟨v,hv⟩:=bs_yes h hb
 rw [hv] at this
 rw [low_less]
 have e:=congrArg (List.drop ((lessK t (prs z)).length+1)) this
 rw [e]
 exact List.drop_left' (by simp)
theorem put_law {z:D} (h:SortedW z) (k v:D):prs (putRaw z k v)=putP (prs z) k.int v.int (!(v.int == -1)):=by
 have htk:=take_low h k.int
 unfold putRaw putP
 have hm:∀ rows,prs (.l rows)=rows.map pr:=fun _=>rfl
 cases hb:bsB z k.int with
 | true =>
  have hdr:=drop_yes h hb
  have hlt:=bs_lt hb
  cases hv:v.int == -1 with
  | true =>
   simp only [cond_true,Bool.not_true,cond_false,List.append_nil]
   rw [hm,delRows,List.map_append,List.map_take,List.map_drop]
   change (prs z).take _++(prs z).drop _=_
   rw [htk,hdr]
  | false =>
   simp only [cond_true,Bool.not_false,cond_false]
   have hset:prs (.l (z.rows.set (lowN z k.int) [gd (z.rows.getD (lowN z k.int) []) 0,v]))=(prs z).take (lowN z k.int) ++ [(k.int,v.int)]++(prs z).drop (lowN z k.int+1):=by
    rw [hm,List.map_set,List.set_eq_take_append_cons_drop,if_pos (by rw [List.length_map]; exact hlt)]
    have hk:keyAt z (lowN z k.int)=k.int:=by
     simp only [bsB,Bool.and_eq_true,beq_iff_eq] at hb
     exact hb.2
    have:pr [gd (z.rows.getD (lowN z k.int) []) 0,v]=(k.int,v.int):=by
     show ((gd (z.rows.getD (lowN z k.int) []) 0).int,v.int)=_
     rw [show (gd (z.rows.getD (lowN z k.int) []) 0).int=k.int from hk]
    rw [this]
    simp [prs]
   rw [hset,htk,hdr]
 | false =>
  have hdr:=drop_no h hb
  cases hv:v.int == -1 with
  | true =>
   simp only [cond_true,Bool.not_true,cond_false,List.append_nil]
   change prs z=_
   conv=>lhs; rw [← List.take_append_drop (lowN z k.int) (prs z)]
   rw [htk,hdr]
  | false =>
   simp only [cond_true,Bool.not_false,cond_false]
   rw [hm,insRows,List.map_append,List.map_cons,List.map_take,List.map_drop]
   change (prs z).take _++(pr [k,v]::(prs z).drop _)=_
   rw [htk,hdr,List.append_assoc]
   rfl
theorem fold_t (k v:D):∀ (rs:List (List D)) (acc:List (List D)),rs.foldl (stepL k v) (acc,true)=(acc++(rs.filter fun r=>(gd r 0).int != k.int).map (fun r=>sub r 0 2),true)
 | [],acc=>by simp
 | r::rs,acc=>by
  rw [List.foldl_cons]
  have:stepL k v (acc,true) r=(bif (gd r 0).int != k.int then acc ++ [sub r 0 2] else acc,true):=rfl
  rw [this,fold_t k v rs,List.filter_cons]
  cases (gd r 0).int != k.int <;> simp
def fin (k v:D) (R:List (List D) × Bool):List (List D):=bif !R.2 then R.1 ++ [[k,v]] else R.1
theorem ne_map (k:Int) (rs:List (List D)):((rs.filter fun r=>(gd r 0).int != k).map fun r=>sub r 0 2).map pr=(rs.map pr).filter fun a=>a.1 != k:=by
 rw [List.map_map,List.filter_map]
 rfl
theorem ne_split {xs:List (Int × Int)} (h:upL xs) (k:Int):(xs.filter fun a=>a.1 != k)=lessK k xs++moreK k xs:=by
 have hs:=rise_split h k
 conv=>lhs; rw [hs]
 rw [List.filter_append,List.filter_append]
 have h1:(lessK k xs).filter (fun a=>a.1 != k)=lessK k xs:=List.filter_eq_self.2 fun a ha=>by
  have:a.1<k:=by simpa using (List.mem_filter.1 ha).2
  simp; omega
 have h2:(moreK k xs).filter (fun a=>a.1 != k)=moreK k xs:=List.filter_eq_self.2 fun a ha=>by
  have:k<a.1:=by simpa using (List.mem_filter.1 ha).2
  simp; omega
 have h3:((xs.filter fun a=>a.1==k).filter fun a=>a.1 != k) = []:=List.filter_eq_nil_iff.2 fun a ha=>by
  have:a.1=k:=by simpa using (List.mem_filter.1 ha).2
  simp; omega
 rw [h1,h2,h3,List.append_nil]
theorem fold_f (k v:D):∀ (rs:List (List D)) (acc:List (List D)),(rs.map pr).Pairwise (fun a b=>a.1<b.1)→(fin k v (rs.foldl (stepL k v) (acc,false))).map pr=acc.map pr++putP (rs.map pr) k.int v.int true
 | [],acc,_=>by simp [fin,putP,lessK,moreK,pr,gd_cons_zero,gd_cons_succ]
 | r::rs,acc,h=>by
  rw [List.foldl_cons]
  rw [List.map_cons,List.pairwise_cons] at h
  have hgt:∀ b∈rs.map pr,(gd r 0).int<b.1:=h.1
  rcases Int.lt_or_le (gd r 0).int k.int with hlt | hge
  ·have e1:stepL k v (acc,false) r=(acc ++ [sub r 0 2],false):=by
    unfold stepL
    simp only [leI_f hlt,Bool.and_false,cond_false,Bool.or_false]
    rw [show ((gd r 0).int != k.int)=true from by simp; omega]
    rfl
   rw [e1,fold_f k v rs _ h.2]
   unfold putP lessK moreK
   rw [List.map_cons,List.filter_cons,List.filter_cons,if_pos (show decide ((pr r).1<k.int)=true from decide_eq_true hlt),if_neg (show ¬ decide (k.int<(pr r).1)=true from fun h=>by have:=of_decide_eq_true h; have:k.int<(gd r 0).int:=this; omega)]
   simp only [List.map_append,List.map_cons,List.map_nil,pr_sub,List.append_assoc,List.cons_append,List.nil_append,cond_true]
  ·have hall:∀ b∈rs.map pr,k.int<b.1:=fun b hb=>by have:=hgt b hb; omega
   obtain ⟨q1,q2⟩:=more_all hall
   unfold lessK at q2
   unfold moreK at q1
   have hne:((rs.map pr).filter fun a=>a.1 != k.int)=rs.map pr:=List.filter_eq_self.2 fun a ha=>by have:=hall a ha; simp; omega
   unfold putP lessK moreK
   rw [List.map_cons,List.filter_cons,List.filter_cons,q1,q2,if_neg (show ¬ decide ((pr r).1<k.int)=true from fun h=>by have:=of_decide_eq_true h; have:(gd r 0).int<k.int:=this; omega)]
   rcases Int.lt_or_eq_of_le hge with hlt | he
   ·have e1:stepL k v (acc,false) r=(acc ++ [[k,v]] ++ [sub r 0 2],true):=by
     unfold stepL
     simp only [leI_t hge,Bool.not_false,Bool.and_true,cond_true,Bool.or_true]
     rw [show ((gd r 0).int != k.int)=true from by simp; omega]
     rfl
    rw [e1,fold_t,if_pos (show decide (k.int<(pr r).1)=true from decide_eq_true hlt)]
    show (acc ++ [[k,v]] ++ [sub r 0 2]++_).map pr=_
    rw [List.map_append,ne_map,hne]
    simp only [List.map_append,List.map_cons,List.map_nil,pr_sub,List.append_assoc,List.cons_append,List.nil_append,cond_true]
    rfl
   ·have e1:stepL k v (acc,false) r=(acc ++ [[k,v]],true):=by
     unfold stepL
     simp only [leI_t hge,Bool.not_false,Bool.and_true,cond_true,Bool.or_true]
     rw [show ((gd r 0).int != k.int)=false from by simp; omega]
     rfl
    rw [e1,fold_t,if_neg (show ¬ decide (k.int<(pr r).1)=true from fun h=>by have:=of_decide_eq_true h; have:k.int<(gd r 0).int:=this; omega)]
    show (acc ++ [[k,v]]++_).map pr=_
    rw [List.map_append,ne_map,hne]
    simp only [List.map_append,List.map_cons,List.map_nil,List.append_assoc,List.cons_append,List.nil_append,cond_true]
    rfl
theorem l2_law {z:D} (h:SortedW z) (k v:D) (keep:Bool):prs (l2Raw z k v keep)=putP (prs z) k.int v.int keep:=by
 have hu:=h.upL
 unfold l2Raw accL
 rw [List.take_length]
 cases keep with
 | true=>exact fold_f k v z.rows [] hu.1
 | false =>
  rw [show (!false)=true from rfl,fold_t]
  show ([]++_:List (List D)).map pr=_
  rw [List.nil_append,ne_map]
  change (prs z).filter _=_
  rw [ne_split hu]
  simp [putP]
theorem norm_own {P:Program} {f:FuncId} {args:List T} {e:TypeId} {y y':D} (hrow:rowOf P e=some cellRow) (hl:prs y=prs y') (h:SoundFn P f args ⟨.one (.c (.own (0,0) true e)),[y]⟩):SoundFn P f args ⟨.one (.c (.own (0,0) true e)),[y']⟩:=by
 have h:=h.n rfl
 refine SoundFn.of rfl ⟨h.1,fun w prot vs ha hf=>(h.2 w prot vs ha hf).mono ?_⟩
 rintro ex w' ⟨v,g',rfl,hR⟩
 have hlen:y.rows.length=y'.rows.length:=by rw [← prs_len,← prs_len,hl]
 refine ⟨v,g',rfl,hR.below,?_,hR.prot,hR.fresh⟩
 obtain ⟨row,hr,ho⟩:=hR.val
 rw [hrow] at hr; injection hr with hr; subst hr
 refine ⟨cellRow,hrow,?_⟩
 have ho:OwnV P w' g' w.heap.size (0,0) true e cellRow y.rows v:=ho
 show OwnV P w' g' w.heap.size (0,0) true e cellRow y'.rows v
 rcases ho with ⟨h0,h1,h2⟩ | ⟨cap,arr,E,h1,h2,h3,h4,h5,h6,h7,h8,h9,h10,h11⟩
 ·refine .inl ⟨List.eq_nil_of_length_eq_zero (by rw [← hlen,h0]; rfl),h1,h2⟩
 ·refine .inr ⟨cap,arr,E,by rw [← hlen]; exact h1,by rw [← hlen]; exact h2,h3,h4,h5,h6,h7,by rw [← hlen]; exact h8,h9,h10,fun i j s hi hs=>?_⟩
  rw [← hlen] at hi
  obtain ⟨u,k1,k2⟩:=h11 i j s hi hs
  refine ⟨u,k1,?_⟩
  have he:pr (y.rows.getD i [])=pr (y'.rows.getD i []):=by
   have h1:(prs y)[i]?=(prs y')[i]?:=by rw [hl]
   unfold prs at h1
   rw [List.getElem?_map,List.getElem?_map,List.getElem?_eq_getElem hi,List.getElem?_eq_getElem (by omega)] at h1
   rw [List.getD_eq_getElem?_getD,List.getD_eq_getElem?_getD,List.getElem?_eq_getElem hi,List.getElem?_eq_getElem (by omega)]
   simpa using h1
  unfold pr at he
  injection he with e0 e1
  match j,hs with
  | 0,hs =>
   injection hs with hs
   subst hs
   have:=vd_int (k:=.i64) k2
   rw [this,e0]
   exact .int .i64 _
  | 1,hs =>
   injection hs with hs
   subst hs
   have:=vd_int (k:=.i64) k2
   rw [this,e1]
   exact .int .i64 _
def putD (z:D) (k v:Int):D:=prD (putP (prs z) k v (leI 0 v))
def i_putNE:Ent:=(37,e3 (sd (.sl 53)) ri ri fun p q r=>(⟨.one (.c (.own (0,0) true 53)),[putD (gd p 0) (gd q 0).int (gd r 0).int]⟩,cellsUp (gd p 0)&&inB (gd q 0).int 0 999&&leI (-1) (gd r 0).int))
theorem i_putN_ok:EntOk Try.prog i_putNE:=e3_ok fun p q r h=>by
 have h:(cellsUp (gd p 0)&&inB (gd q 0).int 0 999&&leI (-1) (gd r 0).int)=true:=h
 rw [Bool.and_eq_true] at h
 obtain ⟨h1,h2⟩:=h
 simp only [leI,decide_eq_true_eq] at h2
 refine norm_own row_cell ?_ (i_put_ok [⟨sd (.sl 53),p⟩,⟨ri,q⟩,⟨ri,r⟩] ⟨.one (.c (.own (0,0) true 53)),[putRaw (gd p 0) (gd q 0) (gd r 0)]⟩ ?_)
 ·rw [Bool.and_eq_true] at h1
  rw [put_law (up_sorted h1.1),putD,prs_prD]
  congr 1
  rw [Bool.eq_iff_iff]
  simp [leI]
  omega
 ·simp only [i_putE,e3,beq_self_eq_true,Bool.and_self,cond_true,h1]
def s_l2CellsNE:Ent:=(62,e4 (sd (.sl 53)) ri ri rb fun p q r s=>(⟨.one (.c (.own (0,0) true 53)),[prD (putP (prs (gd p 0)) (gd q 0).int (gd r 0).int (gd s 0).bool)]⟩,cellsUp (gd p 0)))
theorem s_l2CellsN_ok:EntOk Try.prog s_l2CellsNE:=e4_ok fun p q r s h=>by
 have h:cellsUp (gd p 0)=true:=h
 have hz:=up_sorted h
 have hl:=hz.len
 refine norm_own row_cell ?_ (s_l2Cells_ok [⟨sd (.sl 53),p⟩,⟨ri,q⟩,⟨ri,r⟩,⟨rb,s⟩] ⟨.one (.c (.own (0,0) true 53)),[l2Raw (gd p 0) (gd q 0) (gd r 0) (gd s 0).bool]⟩ ?_)
 ·rw [l2_law hz,prs_prD]
 ·have:leI ((gd p 0).rows.length:Int) 1000000=true:=leI_t (by omega)
  simp only [s_l2CellsE,e4,beq_self_eq_true,Bool.and_self,cond_true,this]
theorem putD_up {z:D} (h:cellsUp z=true) {k:Int} (hk:inB k 0 999=true) (v:Int):cellsUp (putD z k v)=true:=by
 simp only [inB,Bool.and_eq_true,decide_eq_true_eq] at hk
 rw [up_iff,putD,prs_prD]
 exact putP_up (up_iff.1 h) hk v _
end Go.Proofs.Ytecefnhhlaolmaa
namespace Go.Proofs.Ytecefnhhlaolmaa
set_option maxRecDepth 4096
set_option maxHeartbeats 1000000
end Go.Proofs.Ytecefnhhlaolmaa
namespace Go.Proofs.Ytecefnhhlaolmaa
set_option maxRecDepth 4096
set_option maxHeartbeats 1000000
end Go.Proofs.Ytecefnhhlaolmaa
namespace Go.Proofs.Ytecefnhhlaolmaa
set_option maxRecDepth 4096
set_option maxHeartbeats 1000000
end Go.Proofs.Ytecefnhhlaolmaa
namespace Go.Proofs.Ytecefnhhlaolmaa
set_option maxRecDepth 4096
set_option maxHeartbeats 1000000
end Go.Proofs.Ytecefnhhlaolmaa
namespace Go.Proofs.Ytecefnhhlaolmaa
set_option maxRecDepth 4096
set_option maxHeartbeats 1000000
end Go.Proofs.Ytecefnhhlaolmaa
namespace Go.Proofs.Ytecefnhhlaolmaa
set_option maxRecDepth 4096
set_option maxHeartbeats 1000000
end Go.Proofs.Ytecefnhhlaolmaa
namespace Go.Proofs.Ytecefnhhlaolmaa
set_option maxRecDepth 4096
set_option maxHeartbeats 1000000
end Go.Proofs.Ytecefnhhlaolmaa
namespace Go.Proofs.Ytecefnhhlaolmaa
open Go.RowKit (Below)
def numsOf (z:D):List Int:=z.rows.map fun r=>(gd r 0).int
theorem numsOf_len (z:D):(numsOf z).length=z.rows.length:=by simp [numsOf]
theorem numsOf_at (z:D) (i:Nat) (h:i<z.rows.length):(numsOf z)[i]?=some (gd (z.rows.getD i []) 0).int:=by
 simp [numsOf,List.getD_eq_getElem?_getD,List.getElem?_eq_getElem h]
end Go.Proofs.Ytecefnhhlaolmaa
namespace Go.Proofs.Ytecefnhhlaolmaa
set_option maxRecDepth 4096
set_option maxHeartbeats 1000000
theorem iter_nx {L:List D→Out} {n:Nat} {p q:List D} (h:L p=nx q):iter L (n+1) p=iter L n q:=by
 show (match L p with | some (0,p')=>iter L n p' | o=>o)=_
 rw [h]; rfl
theorem iter_ex {L:List D→Out} {n c:Nat} {p q:List D} (h:L p=some (c+1,q)):iter L (n+1) p=some (c+1,q):=by
 show (match L p with | some (0,p')=>iter L n p' | o=>o)=_
 rw [h]; rfl
end Go.Proofs.Ytecefnhhlaolmaa
namespace Go.Proofs.Ytecefnhhlaolmaa
set_option maxRecDepth 4096
set_option maxHeartbeats 1000000
def vAt (z:D) (i:Nat):Int:=(gd (z.rows.getD i []) 0).int
theorem numsOf_v (z:D) (i:Nat) (h:i<(numsOf z).length):(numsOf z)[i]=vAt z i:=by
 have h':i<z.rows.length:=by rwa [numsOf_len] at h
 have:=numsOf_at z i h'
 rw [List.getElem?_eq_getElem h] at this
 injection this
theorem hasInt_iff (z:D) (x:Int):hasInt z x=true↔x∈numsOf z:=by
 unfold hasInt anyS
 simp only [List.any_eq_true,List.mem_range,beq_iff_eq]
 constructor
 ·rintro ⟨k,hk,rfl⟩
  have hk':k<(numsOf z).length:=by rwa [numsOf_len]
  exact List.mem_iff_getElem.2 ⟨k,hk',numsOf_v z k hk'⟩
 ·intro h
  obtain ⟨k,hk,rfl⟩:=List.getElem_of_mem h
  exact ⟨k,by rwa [numsOf_len] at hk,numsOf_v z k hk⟩
end Go.Proofs.Ytecefnhhlaolmaa
namespace Go.Proofs.Ytecefnhhlaolmaa
set_option maxRecDepth 4096
set_option maxHeartbeats 1000000
end Go.Proofs.Ytecefnhhlaolmaa
namespace Go.Proofs.Ytecefnhhlaolmaa
end Go.Proofs.Ytecefnhhlaolmaa
namespace Go.Proofs.Ytecefnhhlaolmaa
set_option maxRecDepth 4096
set_option maxHeartbeats 1000000
end Go.Proofs.Ytecefnhhlaolmaa
namespace Go.Proofs.Ytecefnhhlaolmaa
set_option maxRecDepth 4096
set_option maxHeartbeats 1000000
structure CoordW (R O:D):Prop where
 len:R.rows.length≤60
 tx:∀ i,i<R.rows.length→(gd (R.rows.getD i []) 0).int=((i+1:Nat):Int)
 sh:∀ i,i<R.rows.length→sharesOk (gd (R.rows.getD i []) 4)=true
 ord:∀ k,k<O.rows.length→1≤vAt O k∧vAt O k≤(R.rows.length:Int)∧(gd (R.rows.getD (vAt O k - 1).toNat []) 3).int=3
 nodup:(numsOf O).Nodup
 all:cnt (isYes R) 0 R.rows.length=O.rows.length
theorem coordW {p:List D} (h:coordOk p=true):CoordW (gd p 0) (gd p 1):=by
 unfold coordOk at h
 simp only [Bool.and_eq_true,decide_eq_true_eq,List.all_eq_true,List.mem_range,beq_iff_eq] at h
 obtain ⟨h1,h2,h3,h4⟩:=h
 have hr:∀ i,i<(gd p 0).rows.length→(gd ((gd p 0).rows.getD i []) 0).int=((i+1:Nat):Int)∧sharesOk (gd ((gd p 0).rows.getD i []) 4)=true:=fun i hi=>by
  have:=h2 i hi
  unfold recAt recOk at this
  simp only [Bool.and_eq_true,beq_iff_eq] at this
  exact ⟨this.1,this.2.1.2.2.1⟩
 have ho:∀ k,k<(gd p 1).rows.length→(1≤vAt (gd p 1) k∧vAt (gd p 1) k≤((gd p 0).rows.length:Int))∧(gd ((gd p 0).rows.getD (vAt (gd p 1) k - 1).toNat []) 3).int=3∧hasInt (.l ((gd p 1).rows.take k)) (vAt (gd p 1) k)=false:=fun k hk=>by
  have:=h3 k hk
  unfold ordAt inB at this
  simp only [Bool.and_eq_true,beq_iff_eq,decide_eq_true_eq,Bool.not_eq_true'] at this
  exact ⟨⟨this.1.1,this.1.2⟩,this.2.1,this.2.2⟩
 refine ⟨h1,fun i hi=>(hr i hi).1,fun i hi=>(hr i hi).2,fun k hk=>⟨(ho k hk).1.1,(ho k hk).1.2,(ho k hk).2.1⟩,?_,by omega⟩
 refine List.pairwise_iff_getElem.2 fun i j hi hj hij e=>?_
 have hj':j<(gd p 1).rows.length:=by rwa [numsOf_len] at hj
 have hn:=(ho j hj').2.2
 rw [← Bool.not_eq_true,hasInt_iff] at hn
 refine hn ?_
 rw [← numsOf_v _ j hj,← e]
 have e2:numsOf (.l ((gd p 1).rows.take j))=(numsOf (gd p 1)).take j:=List.map_take
 rw [e2]
 exact List.mem_iff_getElem.2 ⟨i,by rw [List.length_take]; omega,by rw [List.getElem_take]⟩
end Go.Proofs.Ytecefnhhlaolmaa
namespace Go.Proofs.Ytecefnhhlaolmaa
set_option maxRecDepth 4096
set_option maxHeartbeats 1000000
abbrev s_l17CellsT:FuncId→List T→Option (T × Bool):=find [s_l2CellsNE]
theorem s_l17CellsT_ok:CallOk Try.prog s_l17CellsT:=find_ok (fC ⟨s_l2CellsN_ok,fN⟩)
abbrev s_l17CellsK:List Nat:= [0,1,3,4]
theorem s_l17Cells_ev (N:Nat) (p q:List D):evFn Try.prog s_l17CellsT N s_l17CellsK Try.f44 (.one (.c (.own (0,0) true 53))) [⟨sd (.sl 53),p⟩,⟨ag rIWrite,q⟩]=some (bo,
 nd (cellsUp (gd p 0)) (some (1,[prD (putP (prs (gd p 0)) (gd q 0).int (gd q 1).int (leI 0 (gd q 1).int))]))):=by kernel_rfl
def s_l17CellsE:Ent:=(44,e2 (sd (.sl 53)) (ag rIWrite) fun p q=>(⟨.one (.c (.own (0,0) true 53)),[putD (gd p 0) (gd q 0).int (gd q 1).int]⟩,cellsUp (gd p 0)))
theorem s_l17Cells_ok:EntOk Try.prog s_l17CellsE:=e2_ok fun p q h=>evFn_sound (N:=0) (ks:=s_l17CellsK) (key:=bo) s_l17CellsT_ok (enters Try.func44) Try.func44 fun hw=>by
 rw [s_l17Cells_ev]
 have h:cellsUp (gd p 0)=true:=h
 rw [h]
 rfl
def wrD (z ws:D):Nat→D
 | 0=>z
 | j+1=>putD (wrD z ws j) (gd (ws.rows.getD j []) 0).int (gd (ws.rows.getD j []) 1).int
theorem writes_at {z:D} (h:writesOk z=true) {k:Nat} (hk:k<z.rows.length):inB (gd (z.rows.getD k []) 0).int 0 999=true∧leI (-1) (gd (z.rows.getD k []) 1).int=true:=by
 unfold writesOk at h
 rw [Bool.and_eq_true] at h
 have:=List.all_eq_true.1 h.2 k (List.mem_range.2 hk)
 unfold writeAt at this
 simp only [Bool.and_eq_true] at this
 refine ⟨this.1,?_⟩
 have h1:=this.2.1
 simp only [inB,Bool.and_eq_true,decide_eq_true_eq] at h1
 exact leI_t (by omega)
theorem writes_lenU {z:D} (h:writesOk z=true):z.rows.length≤60:=by
 unfold writesOk at h
 rw [Bool.and_eq_true,decide_eq_true_eq] at h
 omega
theorem wrD_up {z ws:D} (h:cellsUp z=true) (hw:writesOk ws=true):∀ j,j≤ws.rows.length→cellsUp (wrD z ws j)=true
 | 0,_=>h
 | j+1,hj=>putD_up (wrD_up h hw j (by omega)) (writes_at hw (by omega)).1 _
abbrev s_l17DoneT:FuncId→List T→Option (T × Bool):=find [s_l17CellsE]
theorem s_l17DoneT_ok:CallOk Try.prog s_l17DoneT:=find_ok (fC ⟨s_l17Cells_ok,fN⟩)
abbrev s_l17DoneK:List Nat:= [0,1,4,5,6,10,20,4000000]
noncomputable def s_l17DoneL0 (N:Nat) (p q:List D):List D→Out:=loopOf Try.prog s_l17DoneT N s_l17DoneK Try.f30 (sd (.sl 53)) [⟨sd (.sl 53),p⟩,⟨sd (.sl 49),q⟩] 0
noncomputable def s_l17DoneL2 (N:Nat) (p q:List D):List D→Out:=loopOf Try.prog s_l17DoneT N s_l17DoneK Try.f30 (sd (.sl 53)) [⟨sd (.sl 53),p⟩,⟨sd (.sl 49),q⟩] 2
theorem s_l17DoneR0 (N:Nat) (p q:List D) (x0 x1 x2 x3:D):(s_l17DoneL0 N p q) [x0,x1,x2,x3] =
 bif ltI x3.int (x1.rows.length:Int) then (let o2:=iter (s_l17DoneL2 N p q) N [x0,x1,x2,x3,.b (ltI x3.int (x1.rows.length:Int)),.i 0]
  nd o2.isSome (nd (o2.code==4) (nx [gd o2.pay 0,gd o2.pay 1,gd o2.pay 2,.i (w64 ((gd o2.pay 3).int+1))])))
 else ex 0 [x0,x1,x2,x3]:=by kernel_rfl
theorem s_l17DoneR2 (N:Nat) (p q:List D) (x0 x1 x2 x3 x4 x5:D):(s_l17DoneL2 N p q) [x0,x1,x2,x3,x4,x5] =
 nd (inRange x3.int x1.rows.length) (bif ltI x5.int ((gd (x1.rows.getD x3.int.toNat []) 2).rows.length:Int) then nd (inRange x3.int x1.rows.length) (nd (inRange x5.int (gd (x1.rows.getD x3.int.toNat []) 2).rows.length) (nd (cellsUp x0) (nx [putD x0 (gd ((gd (x1.rows.getD x3.int.toNat []) 2).rows.getD x5.int.toNat []) 0).int (gd ((gd (x1.rows.getD x3.int.toNat []) 2).rows.getD x5.int.toNat []) 1).int,x1,x2,x3,x4,.i (w64 (x5.int+1))])))
 else ex 2 [x0,x1,x2,x3,x4,x5]):=by kernel_rfl
theorem s_l17Done_ev (N:Nat) (p q:List D):evFn Try.prog s_l17DoneT N s_l17DoneK Try.f30 (sd (.sl 53)) [⟨sd (.sl 53),p⟩,⟨sd (.sl 49),q⟩]=some (bo,
 (let o0:=iter (s_l17DoneL0 N p q) N [gd p 0,gd q 0,.l [],.i 0]
  nd o0.isSome (nd (o0.code==2) (some (1,[gd o0.pay 0]))))):=by kernel_rfl
abbrev wsOf (sh:D) (i:Nat):D:=gd (sh.rows.getD i []) 2
def doneD (z sh:D):Nat→D
 | 0=>z
 | i+1=>wrD (doneD z sh i) (wsOf sh i) (wsOf sh i).rows.length
theorem shares_ws {sh:D} (h:sharesOk sh=true) {i:Nat} (hi:i<sh.rows.length):writesOk (wsOf sh i)=true:=by
 unfold sharesOk at h
 rw [Bool.and_eq_true] at h
 have:=List.all_eq_true.1 h.2 i (List.mem_range.2 hi)
 unfold shareAt at this
 simp only [Bool.and_eq_true] at this
 exact this.2.2.2.1
theorem shares_len {z:D} (h:sharesOk z=true):z.rows.length≤4:=by
 unfold sharesOk at h
 rw [Bool.and_eq_true,decide_eq_true_eq] at h
 omega
theorem doneD_up {z sh:D} (h:cellsUp z=true) (hs:sharesOk sh=true):∀ i,i≤sh.rows.length→cellsUp (doneD z sh i)=true
 | 0,_=>h
 | i+1,hi=>wrD_up (doneD_up h hs i (by omega)) (shares_ws hs (by omega)) _ (Nat.le_refl _)
def s_l17DoneE:Ent:=(30,e2 (sd (.sl 53)) (sd (.sl 49)) fun p q=>(⟨sd (.sl 53),[doneD (gd p 0) (gd q 0) (gd q 0).rows.length]⟩,cellsUp (gd p 0)&&sharesOk (gd q 0)))
theorem s_l17Done_ok:EntOk Try.prog s_l17DoneE:=e2_ok fun p q h=>evFn_sound (N:=100) (ks:=s_l17DoneK) (key:=bo) s_l17DoneT_ok (enters Try.func30) Try.func30 fun hw=>by
 rw [s_l17Done_ev]
 have h:(cellsUp (gd p 0)&&sharesOk (gd q 0))=true:=h
 rw [Bool.and_eq_true] at h
 have hl:=shares_len h.2
 have e:=run_loop (L:=s_l17DoneL0 100 p q) (fun k => [doneD (gd p 0) (gd q 0) k,gd q 0,.l [],.i (k:Int)]) (gd q 0).rows.length 0 (fun k hk=>?_) ?_ (N:=100) (by omega)
 ·simp only [Int.natCast_zero] at e
  rw [show doneD (gd p 0) (gd q 0) 0=gd p 0 from rfl] at e
  rw [e]
  rfl
 ·show s_l17DoneL0 _ p q [_,_,_,.i (k:Int)]=_
  rw [s_l17DoneR0]
  have hw:=shares_ws h.2 hk
  have hwl:=writes_lenU hw
  have hz:=doneD_up h.1 h.2 k (by omega)
  have e2:=run_loop (L:=s_l17DoneL2 100 p q) (fun j => [wrD (doneD (gd p 0) (gd q 0) k) (wsOf (gd q 0) k) j,gd q 0,.l [],.i (k:Int),.b true,.i (j:Int)]) (wsOf (gd q 0) k).rows.length 2 (fun j hj=>?_) ?_ (N:=100) (by omega)
  ·simp only [Int.natCast_zero] at e2
   rw [show wrD (doneD (gd p 0) (gd q 0) k) (wsOf (gd q 0) k) 0=doneD (gd p 0) (gd q 0) k from rfl] at e2
   simp only [int_i,ltI_nat hk,cond_true]
   rw [e2]
   simp only [nd,cond_true,cond_false,Option.isSome_some,Out.code,Out.pay,Option.getD_some,gd_cons_zero,gd_cons_succ,Nat.reduceBEq,Nat.reduceAdd,int_i,bool_b,str_s,rows_l,Bool.not_true,Bool.not_false,beq_self_eq_true,w64_succ hk (show (gd q 0).rows.length≤9223372036854775807 from by omega)]
   rfl
  ·show s_l17DoneL2 _ p q [_,_,_,_,_,.i (j:Int)]=_
   rw [s_l17DoneR2]
   obtain ⟨w1,w2⟩:=writes_at hw hj
   simp only [int_i,nd_ix hk,Int.toNat_natCast,c_lt hj,nd_ix hj,wrD_up hz hw j (by omega),nd_true,w64_succ hj (show (wsOf (gd q 0) k).rows.length≤9223372036854775807 from by omega)]
   rfl
  ·show s_l17DoneL2 _ p q [_,_,_,_,_,.i ((wsOf (gd q 0) k).rows.length:Int)]=_
   rw [s_l17DoneR2]
   simp only [int_i,nd_ix hk,Int.toNat_natCast,c_nlt]
 ·show s_l17DoneL0 _ p q [_,_,_,.i ((gd q 0).rows.length:Int)]=_
  rw [s_l17DoneR0]
  simp only [int_i,c_nlt]
abbrev s_l17BeforeT:FuncId→List T→Option (T × Bool):=find [s_l17DoneE]
theorem s_l17BeforeT_ok:CallOk Try.prog s_l17BeforeT:=find_ok (fC ⟨s_l17Done_ok,fN⟩)
abbrev s_l17BeforeK:List Nat:= [0,1,2,4,5,6,21,4000005]
noncomputable def s_l17BeforeL0 (N:Nat) (p q:List D):List D→Out:=loopOf Try.prog s_l17BeforeT N s_l17BeforeK Try.f16 (sd (.sl 53)) [⟨ag rICoord,p⟩,⟨ri,q⟩] 0
theorem s_l17BeforeR0 (N:Nat) (p q:List D) (x0 x1 x2 x3 x4 x5 x6 x7 x8:D):(s_l17BeforeL0 N p q) [x0,x1,x2,x3,x4,x5,x6,x7,x8] =
 bif ltI x6.int (x8.rows.length:Int) then nd (inRange x6.int x8.rows.length) (bif (gd (x8.rows.getD x6.int.toNat []) 0).int != x2.int then nd (inRange x6.int x8.rows.length) (nd (inRange (w64 ((gd (x8.rows.getD x6.int.toNat []) 0).int - 1)) x7.rows.length) (nd (cellsUp x5&&sharesOk (gd (x7.rows.getD (w64 ((gd (x8.rows.getD x6.int.toNat []) 0).int - 1)).toNat []) 4)) (nx [x0,x1,x2,x3,x4,doneD x5 (gd (x7.rows.getD (w64 ((gd (x8.rows.getD x6.int.toNat []) 0).int - 1)).toNat []) 4) (gd (x7.rows.getD (w64 ((gd (x8.rows.getD x6.int.toNat []) 0).int - 1)).toNat []) 4).rows.length,.i (w64 (x6.int+1)),x7,x8])))
 else ex 0 [x0,x1,x2,x3,x4,x5,x6,x7,x8])
 else ex 0 [x0,x1,x2,x3,x4,x5,x6,x7,x8]:=by kernel_rfl
theorem s_l17Before_ev (N:Nat) (p q:List D):evFn Try.prog s_l17BeforeT N s_l17BeforeK Try.f16 (sd (.sl 53)) [⟨ag rICoord,p⟩,⟨ri,q⟩]=some (bo,
 (let o0:=iter (s_l17BeforeL0 N p q) N [gd p 0,gd p 1,gd q 0,.i 0,.l [],.l [],.i 0,gd p 0,gd p 1]
  nd o0.isSome (nd (o0.code==2) (some (1,[gd o0.pay 5]))))):=by kernel_rfl
abbrev shOf (R O:D) (k:Nat):D:=gd (R.rows.getD (vAt O k - 1).toNat []) 4
def befN (R O:D):Nat→D
 | 0=>.l []
 | k+1=>doneD (befN R O k) (shOf R O k) (shOf R O k).rows.length
def stopN (C:Nat→Bool):Nat→Nat→Nat
 | k,0=>k
 | k,m+1=>bif C k then k else stopN C (k+1) m
def befD (p:List D) (tx:Int):D:=befN (gd p 0) (gd p 1) (stopN (fun k=>vAt (gd p 1) k==tx) 0 (gd p 1).rows.length)
theorem stop_le (C:Nat→Bool):∀ m k,stopN C k m≤k+m
 | 0,_=>Nat.le_refl _
 | m+1,k=>by
  unfold stopN
  cases C k
  ·have:=stop_le C m (k+1)
   simp only [cond_false]; omega
  ·simp only [cond_true]; omega
theorem stop_loop {L:List D→Out} {st:Nat→List D} {n:Nat} (C:Nat→Bool) (j:Nat) (h1:∀ k,k<n→L (st k)=bif C k then some (j+2,st k) else nx (st (k+1))) (h2:L (st n)=some (j+2,st n)) :
  ∀ (m k N:Nat),k+m=n→m<N→iter L N (st k)=some (j+2,st (stopN C k m)):=by
 intro m
 induction m with
 | zero =>
  intro k N hk hN
  obtain ⟨N,rfl⟩:∃ N',N=N'+1:=⟨N - 1,by omega⟩
  obtain rfl:k=n:=by omega
  exact iter_ex (c:=j+1) h2
 | succ m ih =>
  intro k N hk hN
  obtain ⟨N,rfl⟩:∃ N',N=N'+1:=⟨N - 1,by omega⟩
  have h:=h1 k (by omega)
  unfold stopN
  cases hc:C k with
  | true =>
   rw [hc,cond_true] at h
   rw [cond_true]
   exact iter_ex (c:=j+1) h
  | false =>
   rw [hc,cond_false] at h
   rw [cond_false,iter_nx h]
   exact ih (k+1) N (by omega) (by omega)
theorem empty_up:cellsUp (.l [])=true:=rfl
structure BefW (R O:D):Prop where
 ord:∀ k,k<O.rows.length→1≤vAt O k∧vAt O k≤(R.rows.length:Int)
 sh:∀ k,k<O.rows.length→sharesOk (shOf R O k)=true
 rl:R.rows.length≤60
 ol:O.rows.length≤60
theorem befN_up {R O:D} (h:BefW R O):∀ k,k≤O.rows.length→cellsUp (befN R O k)=true
 | 0,_=>empty_up
 | k+1,hk=>doneD_up (befN_up h k (by omega)) (h.sh k (by omega)) _ (Nat.le_refl _)
theorem befW {p:List D} (h:coordOk p=true):BefW (gd p 0) (gd p 1):=by
 have hc:=coordW h
 refine ⟨fun k hk=>⟨(hc.ord k hk).1,(hc.ord k hk).2.1⟩,fun k hk=>?_,?_,?_⟩
 ·obtain ⟨a,b,_⟩:=hc.ord k hk
  exact hc.sh _ (by omega)
 ·exact hc.len
 ·unfold coordOk at h
  simp only [Bool.and_eq_true,decide_eq_true_eq,beq_iff_eq] at h
  have:=cnt_leW (C:=isYes (gd p 0)) (gd p 0).rows.length 0
  omega
def s_l17BeforeE:Ent:=(16,e2 (ag rICoord) ri fun p q=>(⟨sd (.sl 53),[befD p (gd q 0).int]⟩,coordOk p))
theorem s_l17Before_ok:EntOk Try.prog s_l17BeforeE:=e2_ok fun p q h=>evFn_sound (N:=(gd p 1).rows.length+1) (ks:=s_l17BeforeK) (key:=bo) s_l17BeforeT_ok (enters Try.func16) Try.func16 fun hw=>by
 rw [s_l17Before_ev]
 have h:coordOk p=true:=h
 have hb:=befW h
 have hr:=hb.rl
 have hol:=hb.ol
 have e:=stop_loop (L:=s_l17BeforeL0 ((gd p 1).rows.length+1) p q) (st:=fun k => [gd p 0,gd p 1,gd q 0,.i 0,.l [],befN (gd p 0) (gd p 1) k,.i (k:Int),gd p 0,gd p 1]) (n:=(gd p 1).rows.length) (fun k=>vAt (gd p 1) k==(gd q 0).int) 0 (fun k hk=>?_) ?_ (gd p 1).rows.length 0 ((gd p 1).rows.length+1) (by omega) (by omega)
 ·simp only [Int.natCast_zero] at e
  rw [show befN (gd p 0) (gd p 1) 0=.l [] from rfl] at e
  rw [e]
  rfl
 ·show s_l17BeforeL0 _ p q [_,_,_,_,_,_,.i (k:Int),_,_]=_
  rw [s_l17BeforeR0]
  obtain ⟨o1,o2⟩:=hb.ord k hk
  have ev:(gd ((gd p 1).rows.getD k []) 0).int=vAt (gd p 1) k:=rfl
  have ew:w64 (vAt (gd p 1) k - 1)=((vAt (gd p 1) k - 1).toNat:Int):=by rw [w64_id (by omega) (by omega)]; omega
  have hlt:(vAt (gd p 1) k - 1).toNat<(gd p 0).rows.length:=by omega
  simp only [int_i,c_lt hk,nd_ix hk,Int.toNat_natCast,ev,ew,nd_ix hlt,befN_up hb k (by omega),hb.sh k hk,Bool.and_true,nd_true,w64_succ hk (show (gd p 1).rows.length≤9223372036854775807 from by omega)]
  rw [show (vAt (gd p 1) k != (gd q 0).int) = !(vAt (gd p 1) k==(gd q 0).int) from rfl]
  cases vAt (gd p 1) k==(gd q 0).int <;> rfl
 ·show s_l17BeforeL0 _ p q [_,_,_,_,_,_,.i ((gd p 1).rows.length:Int),_,_]=_
  rw [s_l17BeforeR0]
  simp only [int_i,c_nlt]
end Go.Proofs.Ytecefnhhlaolmaa
namespace Go.Proofs.Ytecefnhhlaolmaa
set_option maxRecDepth 100000
set_option maxHeartbeats 4000000
open Go.RowKit Go.Lib
def protK (B:Option Nat) (n:Nat):Nat→Nat:=fun b=>if B=some b then n else 0
theorem ownK_vd {P:Program} {w:World} {e:TypeId} {row:List S} {z:D} {u:Value} {B:Option Nat} (hrow:rowOf P e=some row) (h:OwnK w e row z.rows u B):VD P w (protK B (z.rows.length*row.length)) (.sl e) z u:=by
 rcases h with ⟨rfl,h0,A,rfl⟩ | ⟨b,cap,arr,rfl,rfl,h2,h3,h4,h5,h6⟩
 ·have:=VD.sl (P:=P) (w:=w) (prot:=protK none (z.rows.length*row.length)) e z A 0 row (fun _ _=>undef) hrow (by rw [h0]; simp) (by omega) (by rw [h0]; intro i j hi; simp at hi) (by rw [h0]; intro i j s hi; simp at hi)
  rwa [show z.rows.length=0 from by rw [h0]; rfl] at this
 ·refine VD.sl e z _ cap row (fun i j=>arr[i*row.length+j]?.getD undef) hrow h2 h3 (fun i j hi hj=>?_) (fun i j s hi hs=>?_)
  ·obtain ⟨v,k1,k2⟩:=h6 i j _ hi (List.getElem?_eq_getElem hj)
   refine ⟨b,0,rfl,?_,?_⟩
   ·rw [k1,Nat.zero_add,cell_at h4]; exact k1
   ·show _<(if some b=some b then _ else _)
    rw [if_pos rfl,Nat.zero_add]
    have:i*row.length+row.length≤z.rows.length*row.length:=by
     rw [← Nat.succ_mul]; exact Nat.mul_le_mul_right _ hi
    omega
  ·obtain ⟨v,k1,k2⟩:=h6 i j s hi hs
   simp only [k1]
   exact k2.vd
theorem ownV_K {P:Program} {w:World} {g:G} {base:Nat} {t:Tok} {xm:Bool} {e:TypeId} {row:List S} {rows:List (List D)} {v:Value} (hf:row.all S.flat=true) (h:OwnV P w g base t xm e row rows v):∃ B,OwnK w e row rows v B∧∀ b,B=some b→base≤b:=by
 rcases h with ⟨h0,_,h2⟩ | ⟨cap,arr,E,h1,h2,⟨h3,rfl,_⟩,h4,h5,h6,h7,h8,h9,h10,h11⟩
 ·exact ⟨none,.inl ⟨rfl,h0,h2⟩,fun b hb=>by cases hb⟩
 ·refine ⟨some (g.ρ t),.inr ⟨g.ρ t,cap,arr,rfl,h1,h2,h3,h6,h7,fun i j s hi hs=>?_⟩,fun b hb=>by injection hb with hb; omega⟩
  obtain ⟨u,k1,k2⟩:=h11 i j s hi hs
  have hsf:=List.all_eq_true.1 hf s (List.mem_of_getElem? hs)
  exact ⟨u,k1,(k2.vd_flat hsf).fv hsf⟩
theorem ownK_size {w:World} {e:TypeId} {row:List S} {rows:List (List D)} {v:Value} {B:Option Nat} (h:OwnK w e row rows v B):∀ b,B=some b→b<w.heap.size:=by
 rcases h with ⟨rfl,_⟩ | ⟨b,cap,arr,rfl,_,_,_,h4,_⟩
 ·intro b hb; cases hb
 ·intro b' hb
  injection hb with hb
  subst hb
  exact lt_of_heap h4
theorem put_calls {w:World} {z:D} {u:Value} {B:Option Nat} {k v:Int} (hO:OwnK w 53 cellRow z.rows u B) (hz:cellsUp z=true) (hk:inB k 0 999=true) (hv:leI (-1) v=true) :
  Calls Try.prog 37 #[u,.int .i64 k,.int .i64 v] w fun ex w'=>∃ v' B',ex=.returned v'∧Below w.heap.size w w'∧OwnK w' 53 cellRow (putD z k v).rows v' B'∧∀ b,B'=some b→w.heap.size≤b:=by
 have hs:=i_putN_ok [⟨sd (.sl 53),[z]⟩,⟨ri,[.i k]⟩,⟨ri,[.i v]⟩] ⟨.one (.c (.own (0,0) true 53)),[putD z k v]⟩ (by
  have h:(cellsUp (gd [z] 0)&&inB (gd [D.i k] 0).int 0 999&&leI (-1) (gd [D.i v] 0).int)=true:=by
   show (cellsUp z&&inB k 0 999&&leI (-1) v)=true
   rw [hz,hk,hv]; rfl
  simp only [i_putNE,e3,beq_self_eq_true,Bool.and_self,cond_true,h]
  rfl)
 have hs:=(hs.n rfl).2 w (protK B (z.rows.length*2)) #[u,.int .i64 k,.int .i64 v] ⟨rfl,fun j t hj=>?_⟩ (fun b hb=>?_)
 ·refine hs.mono ?_
  rintro ex w' ⟨v',g',rfl,hR⟩
  obtain ⟨row,hr,ho⟩:=hR.val
  rw [row_cell] at hr; injection hr with hr; subst hr
  obtain ⟨B',q1,q2⟩:=ownV_K rfl ho
  exact ⟨v',B',rfl,hR.below,q1,q2⟩
 ·match j,hj with
  | 0,hj =>
   injection hj with hj; subst hj
   exact ⟨u,rfl,ownK_vd row_cell hO⟩
  | 1,hj =>
   injection hj with hj; subst hj
   exact ⟨_,rfl,VD.int .i64 (.i k)⟩
  | 2,hj =>
   injection hj with hj; subst hj
   exact ⟨_,rfl,VD.int .i64 (.i v)⟩
 ·show (if B=some b then _ else 0)=0
  rw [if_neg (fun e=>by have:=ownK_size hO b e; omega)]
theorem ownK_below {w w':World} {e:TypeId} {row:List S} {rows:List (List D)} {v:Value} {B:Option Nat} (h:OwnK w e row rows v B) (hb:Below w.heap.size w w'):OwnK w' e row rows v B:=by
 rcases h with h | ⟨b,cap,arr,h1,h2,h3,h4,h5,h6⟩
 ·exact .inl h
 ·exact .inr ⟨b,cap,arr,h1,h2,h3,h4,(hb.block b (lt_of_heap h5)).trans h5,h6⟩
theorem row_write:rowOf Try.prog 67=some cellRow:=by kernel_rfl
theorem vd_writes {w:World} {prot:Nat→Nat} {x:D} {v:Value} (h:VD Try.prog w prot (.sl 67) x v):∃ A c,v=.slice A x.rows.length c∧x.rows.length≤c∧c≤9223372036854775807 ∧
  ∀ i,i<x.rows.length→∃ b o,A=some ⟨b,o,none⟩∧w.cell? ⟨b,o+i*2,none⟩=some (.int .i64 (gd (x.rows.getD i []) 0).int)∧w.cell? ⟨b,o+i*2+1,none⟩=some (.int .i64 (gd (x.rows.getD i []) 1).int):=by
 cases h with
 | sl e d A c row u hr h1 h2 h3 h4 =>
  rw [row_write] at hr
  injection hr with hr
  subst hr
  refine ⟨A,c,rfl,h1,h2,fun i hi=>?_⟩
  obtain ⟨b,o,hA,hc,_⟩:=h3 i 0 hi (by decide)
  obtain ⟨b',o',hA',hc',_⟩:=h3 i 1 hi (by decide)
  rw [hA] at hA'
  injection hA' with hA'
  injection hA' with e1 e2 _
  subst e1 e2
  have e0:=vd_int (k:=.i64) (h4 i 0 _ hi rfl)
  have e1:=vd_int (k:=.i64) (h4 i 1 _ hi rfl)
  rw [e0] at hc
  rw [e1] at hc'
  exact ⟨b,o,hA,hc,hc'⟩
theorem arg_writes {prot:Nat→Nat} {w:World} {q:List D} {vs:Array Value} (h:ArgsV Try.prog prot w [⟨sd (.sl 67),q⟩] vs):∃ u,vs = #[u]∧VD Try.prog w prot (.sl 67) (gd q 0) u:=by
 obtain ⟨u,hu,hv⟩:=h.2 0 _ rfl
 refine ⟨u,args_at h [u] rfl fun j t u' h1 h2=>?_,hv⟩
 match j,h1 with
 | 0,h1=>rw [h2] at hu; injection hu with hu; subst hu; rfl
theorem written_calls {w:World} {prot:Nat→Nat} {z ws:D} {u v1:Value} {B:Option Nat} (hO:OwnK w 53 cellRow z.rows u B) (hz:cellsUp z=true) (hw:writesOk ws=true) (hst:∀ w'',Changed w w'' B→VD Try.prog w'' prot (.sl 67) ws v1) :
  Calls Try.prog 20 #[u,v1] w fun ex w'=>∃ v' B',ex=.returned v'∧Changed w w' B∧OwnK w' 53 cellRow (wrD z ws ws.rows.length).rows v' B'∧∀ b,B'=some b→B=some b∨w.heap.size≤b:=by
 have hl:=writes_lenU hw
 obtain ⟨A,c,rfl,hc1,hc2,_⟩:=vd_writes (hst w (Changed.refl w B))
 have HST:Hid _:=hst
 have HO:Hid _:=hO
 have HZ:Hid _:=hz
 have HW:Hid _:=hw
 clear hst hO hz hw
 go_enter Try.func20,Try.ntmps20
 go_wp2_with fail
 go_loopw [0,9] (fun v i wr=>∃ (k:Nat) (Bk:Option Nat),k≤ws.rows.length∧i=.int .i64 (k:Int)∧Hid (Changed w wr B)∧Hid (OwnK wr 53 cellRow (wrD z ws k).rows v Bk)∧Hid (∀ b,Bk=some b→B=some b∨w.heap.size≤b)) (fun _ i _=>ws.rows.length - (Go.RowKit.intOf i).toNat)
 case atStart=>exact ⟨0,B,by omega,rfl,Changed.refl w B,HO.out,fun b hb=>.inl hb⟩
 case round =>
  obtain ⟨k,Bk,hk,rfl,HC,HOk,HB⟩:=hrel
  by_cases hlt:k<ws.rows.length
  ·obtain ⟨A',c',hA',_,_,hcell⟩:=vd_writes (HST.out wr HC.out)
   injection hA' with e1 e2 e3
   subst e1 e3
   obtain ⟨b,o,rfl,c0,c1⟩:=hcell k hlt
   obtain ⟨w1,w2⟩:=writes_at HW.out hlt
   have hup:=wrD_up HZ.out HW.out k (by omega)
   have hfr:∀ x:World,Below wr.heap.size wr x→Changed w x B:=fun x hx=>HC.out.trans (Changed.of_below B hx) (fun b hb=>.inl hb)
   have hnx:wrD z ws (k+1)=putD (wrD z ws k) (gd (ws.rows.getD k []) 0).int (gd (ws.rows.getD k []) 1).int:=rfl
   generalize (gd (ws.rows.getD k []) 0).int=kk at *
   generalize (gd (ws.rows.getD k []) 1).int=vv at *
   have hcall:∀ x:World,Below wr.heap.size wr x→Calls Try.prog 37 #[u0,.int .i64 kk,.int .i64 vv] x fun ex w'=>∃ v' B',ex=.returned v'∧Below x.heap.size x w'∧OwnK w' 53 cellRow (putD (wrD z ws k) kk vv).rows v' B'∧∀ b,B'=some b→x.heap.size≤b:=fun x hx =>
    put_calls (ownK_below HOk.out hx) hup w1 w2
   have HCALL:Hid _:=hcall
   have HNX:Hid _:=hnx
   have HFR:Hid _:=hfr
   clear hcall hnx hfr w1 w2 hup hcell
   go_wp2_with fail
   refine (HCALL.out _ ((Below.refl _ _).alloc (Nat.le_refl _) _)).mono ?_
   rintro e w' ⟨v',B',rfl,hb',ho',hB'⟩
   have HBB:Hid _:=hb'
   have HOO:Hid _:=ho'
   have HBX:Hid _:=hB'
   clear hb' ho' hB'
   go_wp2_with fail
   go_roundw
   case rel =>
    have hA:Below wr.heap.size wr (wr.alloc (Obj.cells #[Value.int .i64 kk,Value.int .i64 vv] 67)):=(Below.refl _ _).alloc (Nat.le_refl _) _
    refine ⟨k+1,B',by omega,by go_num,HFR.out _ (hA.trans (HBB.out.mono hA.size)),by rw [HNX.out]; exact HOO.out,fun b hb=>.inr ?_⟩
    have q1:=HBX.out b hb
    have q2:=HC.out.size
    simp at q1
    omega
   case measure=>simp [Go.RowKit.intOf]; omega
  ·obtain rfl:k=ws.rows.length:=by omega
   go_wp2_with fail
   go_ret
   exact ⟨_,Bk,rfl,HC.out,HOk.out,HB.out⟩
def i_writtenKE:Ent:=(20,e2 (sd (.sl 53)) (sd (.sl 67)) fun p q=>(⟨.tup [.agg [.any]],[wrD (gd p 0) (gd q 0) (gd q 0).rows.length]⟩,cellsUp (gd p 0)&&writesOk (gd q 0)))
theorem i_writtenK_ok:EntOk Try.prog i_writtenKE:=e2_ok fun p q h=>by
 have h:(cellsUp (gd p 0)&&writesOk (gd q 0))=true:=h
 rw [Bool.and_eq_true] at h
 refine SoundFn.ofK rfl ⟨enters Try.func20 (by kernel_rfl) (by kernel_rfl),fun e x rest row he hrow hflat w prot u B vs hO hB hfr hargs hko=>?_⟩
 injection he with he hre
 injection he with he hp
 injection he with he
 injection he with he
 injection he with he
 injection he with he
 subst he hre
 have hx:gd p 0=x:=by rw [hp]; rfl
 rw [row_cell] at hrow
 injection hrow with hrow
 subst hrow
 obtain ⟨v1,rfl,hv⟩:=arg_writes (hargs w (Changed.refl w B))
 rw [hx] at h
 have:=written_calls (prot:=prot) (ws:=gd q 0) (v1:=v1) hO h.1 h.2 (fun w'' hC=>by
  obtain ⟨v2,e2,hv2⟩:=arg_writes (hargs w'' hC)
  have e2:v1=v2:=by
   have:=congrArg (fun a:Array Value=>a[0]?) e2
   simpa using this
  rw [e2]; exact hv2)
 show Calls _ _ #[u,v1] w fun ex w'=>∃ v' B',ex=.returned v'∧Changed w w' B∧OwnK w' _ _ (wrD (gd p 0) (gd q 0) (gd q 0).rows.length).rows v' B'∧_
 rw [hx]
 exact this
end Go.Proofs.Ytecefnhhlaolmaa
namespace Go.Proofs.Ytecefnhhlaolmaa
set_option maxRecDepth 4096
set_option maxHeartbeats 1000000
def cellsOf (p:List D) (k:Nat):D:=gd ((gd p 9).rows.getD k []) 3
end Go.Proofs.Ytecefnhhlaolmaa
namespace Go.Proofs.Ytecefnhhlaolmaa
set_option maxRecDepth 4096
set_option maxHeartbeats 1000000
end Go.Proofs.Ytecefnhhlaolmaa
namespace Go.Proofs.Ytecefnhhlaolmaa
set_option maxRecDepth 4096
set_option maxHeartbeats 1000000
end Go.Proofs.Ytecefnhhlaolmaa
namespace Go.Proofs.Ytecefnhhlaolmaa
set_option maxRecDepth 4096
set_option maxHeartbeats 1000000
abbrev i_JudgeBeforeOT:FuncId→List T→Option (T × Bool):=find [i_CoordOkE,i_writtenKE]
theorem i_JudgeBeforeOT_ok:CallOk Try.prog i_JudgeBeforeOT:=find_ok (fC ⟨i_CoordOk_ok,fC ⟨i_writtenK_ok,fN⟩⟩)
abbrev i_JudgeBeforeOK:List Nat:= [0,1,2,4,5,7,9,13,16,17,18,19,24,31,32,33,34]
noncomputable def i_JudgeBeforeOL0 (N:Nat) (p q:List D):List D→Out:=loopOf Try.prog i_JudgeBeforeOT N i_JudgeBeforeOK Try.f7 (.one (.c (.own (0,0) true 53))) [⟨ag rICoord,p⟩,⟨ri,q⟩] 0
noncomputable def i_JudgeBeforeOL2 (N:Nat) (p q:List D):List D→Out:=loopOf Try.prog i_JudgeBeforeOT N i_JudgeBeforeOK Try.f7 (.one (.c (.own (0,0) true 53))) [⟨ag rICoord,p⟩,⟨ri,q⟩] 2
theorem i_JudgeBeforeOR0 (N:Nat) (p q:List D) (x0 x1 x2 x3 x4 x5 x6 x7 x8 x9 x10 x11:D):(i_JudgeBeforeOL0 N p q) [x0,x1,x2,x3,x4,x5,x6,x7,x8,x9,x10,x11] =
 bif ltI x9.int x8.int then nd (inRange x9.int x7.rows.length) (bif (gd (x7.rows.getD x9.int.toNat []) 0).int==x2.int then ex 0 [x0,x1,x2,x3,x4,x5,x6,x7,x8,x9,x10,x11]
 else nd (inRange (w64 ((gd (x7.rows.getD x9.int.toNat []) 0).int - 1)) x10.rows.length) ((let o2:=iter (i_JudgeBeforeOL2 N p q) N [x0,x1,x2,x3,x4,x5,x6,x7,x8,x9,.b (ltI x9.int x8.int),gd (x7.rows.getD x9.int.toNat []) 0,.b ((gd (x7.rows.getD x9.int.toNat []) 0).int==x2.int),gd (x10.rows.getD (w64 ((gd (x7.rows.getD x9.int.toNat []) 0).int - 1)).toNat []) 4,.i ((gd (x10.rows.getD (w64 ((gd (x7.rows.getD x9.int.toNat []) 0).int - 1)).toNat []) 4).rows.length:Int),.i 0,x10,x11]
  nd o2.isSome (nd (o2.code==4) (nx [gd o2.pay 0,gd o2.pay 1,gd o2.pay 2,gd o2.pay 3,gd o2.pay 4,gd o2.pay 5,gd o2.pay 6,gd o2.pay 7,gd o2.pay 8,.i (w64 ((gd o2.pay 9).int+1)),gd o2.pay 16,gd o2.pay 17])))))
 else ex 0 [x0,x1,x2,x3,x4,x5,x6,x7,x8,x9,x10,x11]:=by kernel_rfl
theorem i_JudgeBeforeOR2 (N:Nat) (p q:List D) (x0 x1 x2 x3 x4 x5 x6 x7 x8 x9 x10 x11 x12 x13 x14 x15 x16 x17:D):(i_JudgeBeforeOL2 N p q) [x0,x1,x2,x3,x4,x5,x6,x7,x8,x9,x10,x11,x12,x13,x14,x15,x16,x17] =
 bif ltI x15.int x14.int then nd (inRange x15.int x13.rows.length) (nd (cellsUp x5&&writesOk (gd (x13.rows.getD x15.int.toNat []) 2)) (nx [x0,x1,x2,x3,x4,wrD x5 (gd (x13.rows.getD x15.int.toNat []) 2) (gd (x13.rows.getD x15.int.toNat []) 2).rows.length,x6,x7,x8,x9,x10,x11,x12,x13,x14,.i (w64 (x15.int+1)),x16,x17]))
 else ex 2 [x0,x1,x2,x3,x4,x5,x6,x7,x8,x9,x10,x11,x12,x13,x14,x15,x16,x17]:=by kernel_rfl
theorem i_JudgeBeforeO_ev (N:Nat) (p q:List D):evFn Try.prog i_JudgeBeforeOT N i_JudgeBeforeOK Try.f7 (.one (.c (.own (0,0) true 53))) [⟨ag rICoord,p⟩,⟨ri,q⟩]=some (bo,
 bif !(coordOk (sub p 0 2)) then some (1,[.l []])
 else (let o0:=iter (i_JudgeBeforeOL0 N p q) N [gd p 0,gd p 1,gd q 0,.i 0,.l [],.l [],.b (!(coordOk (sub p 0 2))),gd p 1,.i ((gd p 1).rows.length:Int),.i 0,gd p 0,gd p 1]
  nd o0.isSome (nd (o0.code==2) (some (1,[gd o0.pay 5]))))):=by kernel_rfl
def i_JudgeBeforeOE:Ent:=(7,e2 (ag rICoord) ri fun p q=>(⟨.one (.c (.own (0,0) true 53)),[(bif coordOk p then befD p (gd q 0).int else .l [])]⟩,true))
theorem i_JudgeBeforeO_ok:EntOk Try.prog i_JudgeBeforeOE:=e2_ok fun p q h=>evFn_sound (N:=(gd p 1).rows.length+6) (ks:=i_JudgeBeforeOK) (key:=bo) i_JudgeBeforeOT_ok (enters Try.func7) Try.func7 fun hw=>by
 rw [i_JudgeBeforeO_ev]
 rw [show coordOk (sub p 0 2)=coordOk p from rfl]
 cases h:coordOk p with
 | false=>rfl
 | true =>
 have hb:=befW h
 have hr:=hb.rl
 have hol:=hb.ol
 have e:=stop_loop (L:=i_JudgeBeforeOL0 ((gd p 1).rows.length+6) p q) (st:=fun k => [gd p 0,gd p 1,gd q 0,.i 0,.l [],befN (gd p 0) (gd p 1) k,.b false,gd p 1,.i ((gd p 1).rows.length:Int),.i (k:Int),gd p 0,gd p 1]) (n:=(gd p 1).rows.length) (fun k=>vAt (gd p 1) k==(gd q 0).int) 0 (fun k hk=>?_) ?_ (gd p 1).rows.length 0 ((gd p 1).rows.length+6) (by omega) (by omega)
 ·simp only [Int.natCast_zero] at e
  rw [show befN (gd p 0) (gd p 1) 0=.l [] from rfl] at e
  simp only [Bool.not_true,cond_false]
  rw [e]
  rfl
 ·show i_JudgeBeforeOL0 _ p q [_,_,_,_,_,_,_,_,_,.i (k:Int),_,_]=_
  rw [i_JudgeBeforeOR0]
  obtain ⟨o1,o2⟩:=hb.ord k hk
  have hsh:=hb.sh k hk
  have hsl:=shares_len hsh
  have hz:=befN_up hb k (by omega)
  have ev:(gd ((gd p 1).rows.getD k []) 0).int=vAt (gd p 1) k:=rfl
  have ew:w64 (vAt (gd p 1) k - 1)=((vAt (gd p 1) k - 1).toNat:Int):=by rw [w64_id (by omega) (by omega)]; omega
  have hlt:(vAt (gd p 1) k - 1).toNat<(gd p 0).rows.length:=by omega
  simp only [int_i,c_lt hk,nd_ix hk,Int.toNat_natCast,ev,ew,nd_ix hlt,ltI_nat hk]
  cases vAt (gd p 1) k==(gd q 0).int with
  | true=>rfl
  | false =>
   simp only [cond_false]
   have e2:=run_loop (L:=i_JudgeBeforeOL2 ((gd p 1).rows.length+6) p q) (fun j => [gd p 0,gd p 1,gd q 0,.i 0,.l [],doneD (befN (gd p 0) (gd p 1) k) (shOf (gd p 0) (gd p 1) k) j,.b false,gd p 1,.i ((gd p 1).rows.length:Int),.i (k:Int),.b true,gd ((gd p 1).rows.getD k []) 0,.b false,shOf (gd p 0) (gd p 1) k,.i ((shOf (gd p 0) (gd p 1) k).rows.length:Int),.i (j:Int),gd p 0,gd p 1]) (shOf (gd p 0) (gd p 1) k).rows.length 2 (fun j hj=>?_) ?_ (N:=(gd p 1).rows.length+6) (by omega)
   ·simp only [Int.natCast_zero] at e2
    rw [show doneD (befN (gd p 0) (gd p 1) k) (shOf (gd p 0) (gd p 1) k) 0=befN (gd p 0) (gd p 1) k from rfl] at e2
    rw [e2]
    simp only [nd,cond_true,cond_false,Option.isSome_some,Out.code,Out.pay,Option.getD_some,gd_cons_zero,gd_cons_succ,Nat.reduceBEq,Nat.reduceAdd,int_i,bool_b,str_s,rows_l,Bool.not_true,Bool.not_false,beq_self_eq_true,w64_succ hk (show (gd p 1).rows.length≤9223372036854775807 from by omega)]
    rfl
   ·show i_JudgeBeforeOL2 _ p q [_,_,_,_,_,_,_,_,_,_,_,_,_,_,_,.i (j:Int),_,_]=_
    rw [i_JudgeBeforeOR2]
    simp only [int_i,c_lt hj,nd_ix hj,Int.toNat_natCast,doneD_up hz hsh j (by omega),shares_ws hsh hj,Bool.and_true,nd_true,w64_succ hj (show (shOf (gd p 0) (gd p 1) k).rows.length≤9223372036854775807 from by omega)]
    rfl
   ·show i_JudgeBeforeOL2 _ p q [_,_,_,_,_,_,_,_,_,_,_,_,_,_,_,.i ((shOf (gd p 0) (gd p 1) k).rows.length:Int),_,_]=_
    rw [i_JudgeBeforeOR2]
    simp only [int_i,c_nlt]
 ·show i_JudgeBeforeOL0 _ p q [_,_,_,_,_,_,_,_,_,.i ((gd p 1).rows.length:Int),_,_]=_
  rw [i_JudgeBeforeOR0]
  simp only [int_i,c_nlt]
end Go.Proofs.Ytecefnhhlaolmaa
namespace Go.Proofs.Ytecefnhhlaolmaa
set_option maxRecDepth 4096
set_option maxHeartbeats 1000000
abbrev s_JudgeBeforeT:FuncId→List T→Option (T × Bool):=find [s_CoordOkE,s_l17BeforeE]
theorem s_JudgeBeforeT_ok:CallOk Try.prog s_JudgeBeforeT:=find_ok (fC ⟨s_CoordOk_ok,fC ⟨s_l17Before_ok,fN⟩⟩)
abbrev s_JudgeBeforeK:List Nat:= [0,1,2,4,7]
theorem s_JudgeBefore_ev (N:Nat) (p q:List D):evFn Try.prog s_JudgeBeforeT N s_JudgeBeforeK Try.f5 (sd (.sl 53)) [⟨ag rICoord,p⟩,⟨ri,q⟩]=some (bo,
 bif !(coordOk (sub p 0 2)) then some (1,[.l []])
 else nd (coordOk (sub p 0 2)) (some (1,[befD (sub p 0 2) (gd q 0).int]))):=by kernel_rfl
def s_JudgeBeforeE:Ent:=(5,e2 (ag rICoord) ri fun p q=>(⟨sd (.sl 53),[(bif coordOk p then befD p (gd q 0).int else .l [])]⟩,true))
theorem s_JudgeBefore_ok:EntOk Try.prog s_JudgeBeforeE:=e2_ok fun p q h=>evFn_sound (N:=0) (ks:=s_JudgeBeforeK) (key:=bo) s_JudgeBeforeT_ok (enters Try.func5) Try.func5 fun hw=>by
 rw [s_JudgeBefore_ev]
 rw [show coordOk (sub p 0 2)=coordOk p from rfl]
 cases coordOk p <;> rfl
end Go.Proofs.Ytecefnhhlaolmaa
namespace Go.Proofs.Ytecefnhhlaolmaa
set_option maxRecDepth 4096
set_option maxHeartbeats 1000000
def deepE (ds:List Nat):Ent:=(deepId,fun args=>match args with
 | [t]=>bif ds.contains (gd t.p 0).int.toNat then some (T.none_,false) else none
 | _=>none)
theorem deepE_ok {P:Program} (ds:List Nat):EntOk P (deepE ds):=by
 intro args r h
 unfold deepE at h
 simp only at h
 split at h
 ·rename_i t
  cases hc:ds.contains (gd t.p 0).int.toNat <;> rw [hc] at h <;> cases h
 ·cases h
def apartE:Ent:=(apartId,fun _=>some (T.none_,false))
theorem apartE_ok {P:Program}:EntOk P apartE:=by
 intro args r h
 unfold apartE at h
 cases h
theorem apart_ok {P:Program}:EntOk P apartE:=apartE_ok
def rDShare:List Ce:= [.d si,.own (0,1) true 93,.own (0,2) true 67,.d si]
def rDRec:List Ce:= [.d si,.d si,.d si,.d si,.own (0,1000004) true 49]
def rDCoord:List Ce:= [.own (0,1000000) true 45,.own (0,1) true 3]
noncomputable def toIntSdL (N:Nat) (p:List D):List D→Out:=loopOf Try.prog (find []) N [0,2,3,4,11] Try.f18 (.one (.c (.own (0,0) true 3))) [⟨sd (.sl 3),p⟩] 0
theorem toIntSd_rd (p:List D) (N:Nat) (z x2:D) (rows:List (List D)) (k:Int):toIntSdL N p [z,x2,.l rows,.i k]=bif decide (k<z.rows.length) then nd (inRange k z.rows.length) (nd (okInt (z.rows.getD k.toNat [])) (nd (inRange k rows.length) (nx [z,x2,.l (rows.set k.toNat (cpInt (z.rows.getD k.toNat []))),.i (w64 (k+1))]))) else ex 0 [z,x2,.l rows,.i k]:=by kernel_rfl
theorem toIntSd_ev (p:List D) (N:Nat):evFn Try.prog (find []) N [0,2,3,4,11] Try.f18 (.one (.c (.own (0,0) true 3))) [⟨sd (.sl 3),p⟩]=some (bo,nd (decide (0≤((gd p 0).rows.length:Int))&&decide (((gd p 0).rows.length:Int)=((gd p 0).rows.length:Int))&&decide (((gd p 0).rows.length:Int)≤4294967296)&&true&&true)
  (let o:=iter (toIntSdL N p) N [gd p 0,.l [],.l (List.replicate (gd p 0).rows.length [.i 0]),.i 0]
   nd o.isSome (nd (o.code==2) (some (1,[gd o.pay 2]))))):=by kernel_rfl
def toIntSdE:Ent:=(18,e1 (sd (.sl 3)) fun p=>(⟨.one (.c (.own (0,0) true 3)),[cpIntS (gd p 0)]⟩,okIntS (gd p 0)))
theorem toIntSd_ok:EntOk Try.prog toIntSdE:=e1_ok fun p h=>evFn_sound (N:=(gd p 0).rows.length+1) (ks:= [0,2,3,4,11]) (key:=bo) (find_ok (fN)) (enters Try.func18) Try.func18 fun hw=>by
 have h:okIntS (gd p 0)=true:=h
 simp only [okIntS,Bool.and_eq_true,decide_eq_true_eq,List.all_eq_true] at h
 rw [toIntSd_ev,fill_loop (ok:=fun r=>okInt r) (f:=fun r=>cpInt r) [.i 0] (wt_sl (hw ⟨sd (.sl 3),p⟩ (by simp))) h.2 (toIntSd_rd p _ _ _) (by omega)]
 rw [show decide (((gd p 0).rows.length:Int)≤4294967296)=true from decide_eq_true (by omega),show decide (0≤((gd p 0).rows.length:Int))=true from decide_eq_true (by omega),decide_eq_true (rfl:((gd p 0).rows.length:Int)=_)]
 rfl
noncomputable def toRangeSdL (N:Nat) (p:List D):List D→Out:=loopOf Try.prog (find [toRangeE]) N [0,2,3,4,11] Try.f77 (.one (.c (.own (0,0) true 93))) [⟨sd (.sl 113),p⟩] 0
theorem toRangeSd_rd (p:List D) (N:Nat) (z x2:D) (rows:List (List D)) (k:Int):toRangeSdL N p [z,x2,.l rows,.i k]=bif decide (k<z.rows.length) then nd (inRange k z.rows.length) (nd (okRange (sub (z.rows.getD k.toNat []) 0 2)) (nd (inRange k rows.length) (nx [z,x2,.l (rows.set k.toNat (cpRange (sub (z.rows.getD k.toNat []) 0 2))),.i (w64 (k+1))]))) else ex 0 [z,x2,.l rows,.i k]:=by kernel_rfl
theorem toRangeSd_ev (p:List D) (N:Nat):evFn Try.prog (find [toRangeE]) N [0,2,3,4,11] Try.f77 (.one (.c (.own (0,0) true 93))) [⟨sd (.sl 113),p⟩]=some (bo,nd (decide (0≤((gd p 0).rows.length:Int))&&decide (((gd p 0).rows.length:Int)=((gd p 0).rows.length:Int))&&decide (((gd p 0).rows.length:Int)≤4294967296)&&true&&true)
  (let o:=iter (toRangeSdL N p) N [gd p 0,.l [],.l (List.replicate (gd p 0).rows.length [.i 0,.i 0]),.i 0]
   nd o.isSome (nd (o.code==2) (some (1,[gd o.pay 2]))))):=by kernel_rfl
def toRangeSdE:Ent:=(77,e1 (sd (.sl 113)) fun p=>(⟨.one (.c (.own (0,0) true 93)),[cpRangeS (gd p 0)]⟩,okRangeS (gd p 0)))
theorem toRangeSd_ok:EntOk Try.prog toRangeSdE:=e1_ok fun p h=>evFn_sound (N:=(gd p 0).rows.length+1) (ks:= [0,2,3,4,11]) (key:=bo) (find_ok (fC ⟨toRange_ok,fN⟩)) (enters Try.func77) Try.func77 fun hw=>by
 have h:okRangeS (gd p 0)=true:=h
 simp only [okRangeS,Bool.and_eq_true,decide_eq_true_eq,List.all_eq_true] at h
 rw [toRangeSd_ev,fill_loop (ok:=fun r=>okRange (sub r 0 2)) (f:=fun r=>cpRange (sub r 0 2)) [.i 0,.i 0] (wt_sl (hw ⟨sd (.sl 113),p⟩ (by simp))) h.2 (toRangeSd_rd p _ _ _) (by omega)]
 rw [show decide (((gd p 0).rows.length:Int)≤4294967296)=true from decide_eq_true (by omega),show decide (0≤((gd p 0).rows.length:Int))=true from decide_eq_true (by omega),decide_eq_true (rfl:((gd p 0).rows.length:Int)=_)]
 rfl
noncomputable def toWriteSdL (N:Nat) (p:List D):List D→Out:=loopOf Try.prog (find [toWriteE]) N [0,2,3,4,11] Try.f78 (.one (.c (.own (0,0) true 67))) [⟨sd (.sl 115),p⟩] 0
theorem toWriteSd_rd (p:List D) (N:Nat) (z x2:D) (rows:List (List D)) (k:Int):toWriteSdL N p [z,x2,.l rows,.i k]=bif decide (k<z.rows.length) then nd (inRange k z.rows.length) (nd (okWrite (sub (z.rows.getD k.toNat []) 0 2)) (nd (inRange k rows.length) (nx [z,x2,.l (rows.set k.toNat (cpWrite (sub (z.rows.getD k.toNat []) 0 2))),.i (w64 (k+1))]))) else ex 0 [z,x2,.l rows,.i k]:=by kernel_rfl
theorem toWriteSd_ev (p:List D) (N:Nat):evFn Try.prog (find [toWriteE]) N [0,2,3,4,11] Try.f78 (.one (.c (.own (0,0) true 67))) [⟨sd (.sl 115),p⟩]=some (bo,nd (decide (0≤((gd p 0).rows.length:Int))&&decide (((gd p 0).rows.length:Int)=((gd p 0).rows.length:Int))&&decide (((gd p 0).rows.length:Int)≤4294967296)&&true&&true)
  (let o:=iter (toWriteSdL N p) N [gd p 0,.l [],.l (List.replicate (gd p 0).rows.length [.i 0,.i 0]),.i 0]
   nd o.isSome (nd (o.code==2) (some (1,[gd o.pay 2]))))):=by kernel_rfl
def toWriteSdE:Ent:=(78,e1 (sd (.sl 115)) fun p=>(⟨.one (.c (.own (0,0) true 67)),[cpWriteS (gd p 0)]⟩,okWriteS (gd p 0)))
theorem toWriteSd_ok:EntOk Try.prog toWriteSdE:=e1_ok fun p h=>evFn_sound (N:=(gd p 0).rows.length+1) (ks:= [0,2,3,4,11]) (key:=bo) (find_ok (fC ⟨toWrite_ok,fN⟩)) (enters Try.func78) Try.func78 fun hw=>by
 have h:okWriteS (gd p 0)=true:=h
 simp only [okWriteS,Bool.and_eq_true,decide_eq_true_eq,List.all_eq_true] at h
 rw [toWriteSd_ev,fill_loop (ok:=fun r=>okWrite (sub r 0 2)) (f:=fun r=>cpWrite (sub r 0 2)) [.i 0,.i 0] (wt_sl (hw ⟨sd (.sl 115),p⟩ (by simp))) h.2 (toWriteSd_rd p _ _ _) (by omega)]
 rw [show decide (((gd p 0).rows.length:Int)≤4294967296)=true from decide_eq_true (by omega),show decide (0≤((gd p 0).rows.length:Int))=true from decide_eq_true (by omega),decide_eq_true (rfl:((gd p 0).rows.length:Int)=_)]
 rfl
theorem toShared_ev (p:List D) (N:Nat):evFn Try.prog (find [toRangeSdE,toWriteSdE]) N [0,1,2,3] Try.f63 (.one (.agg rDShare)) [⟨ag rLShare,p⟩]=some (bo,nd (okRangeS (gd p 1)) (nd (okWriteS (gd p 2)) (some (1,cpShare p)))):=by kernel_rfl
def toSharedE:Ent:=(63,e1 (ag rLShare) fun p=>(⟨.one (.agg rDShare),cpShare p⟩,okShare p))
theorem toShared_ok:EntOk Try.prog toSharedE:=e1_ok fun p h=>evFn_sound (N:=0) (ks:= [0,1,2,3]) (key:=bo) (find_ok (fC ⟨toRangeSd_ok,fC ⟨toWriteSd_ok,fN⟩⟩)) (enters Try.func63) Try.func63 fun _=>by
 have h:okShare p=true:=h
 simp only [okShare,Bool.and_eq_true] at h
 rw [toShared_ev]
 simp only [nd,h.1,h.2,cond_true]
noncomputable def toShareSdL (N:Nat) (p:List D):List D→Out:=loopOf Try.prog (find [toSharedE,deepE [7]]) N [0,2,3,4,11] Try.f45 (.one (.c (.own (0,1000000) true 49))) [⟨sd (.sl 89),p⟩] 0
theorem toShareSd_rd (p:List D) (N:Nat) (z x2:D) (rows:List (List D)) (k:Int):toShareSdL N p [z,x2,.l rows,.i k]=bif decide (k<z.rows.length) then nd (inRange k z.rows.length) (nd (okShare (sub (z.rows.getD k.toNat []) 0 4)) (nd (inRange k rows.length) (nx [z,x2,.l (rows.set k.toNat (cpShare (sub (z.rows.getD k.toNat []) 0 4))),.i (w64 (k+1))]))) else ex 0 [z,x2,.l rows,.i k]:=by kernel_rfl
theorem toShareSd_ev (p:List D) (N:Nat):evFn Try.prog (find [toSharedE,deepE [7]]) N [0,2,3,4,11] Try.f45 (.one (.c (.own (0,1000000) true 49))) [⟨sd (.sl 89),p⟩]=some (bo,nd (decide (0≤((gd p 0).rows.length:Int))&&decide (((gd p 0).rows.length:Int)=((gd p 0).rows.length:Int))&&decide (((gd p 0).rows.length:Int)≤4294967296)&&true&&true)
  (let o:=iter (toShareSdL N p) N [gd p 0,.l [],.l (List.replicate (gd p 0).rows.length [.i 0,.l [],.l [],.i 0]),.i 0]
   nd o.isSome (nd (o.code==2) (some (1,[gd o.pay 2]))))):=by kernel_rfl
def toShareSdE:Ent:=(45,e1 (sd (.sl 89)) fun p=>(⟨.one (.c (.own (0,1000000) true 49)),[cpShareS (gd p 0)]⟩,okShareS (gd p 0)))
theorem toShareSd_ok:EntOk Try.prog toShareSdE:=e1_ok fun p h=>evFn_sound (N:=(gd p 0).rows.length+1) (ks:= [0,2,3,4,11]) (key:=bo) (find_ok (fC ⟨toShared_ok,fC ⟨deepE_ok _,fN⟩⟩)) (enters Try.func45) Try.func45 fun hw=>by
 have h:okShareS (gd p 0)=true:=h
 simp only [okShareS,Bool.and_eq_true,decide_eq_true_eq,List.all_eq_true] at h
 rw [toShareSd_ev,fill_loop (ok:=fun r=>okShare (sub r 0 4)) (f:=fun r=>cpShare (sub r 0 4)) [.i 0,.l [],.l [],.i 0] (wt_sl (hw ⟨sd (.sl 89),p⟩ (by simp))) h.2 (toShareSd_rd p _ _ _) (by omega)]
 rw [show decide (((gd p 0).rows.length:Int)≤4294967296)=true from decide_eq_true (by omega),show decide (0≤((gd p 0).rows.length:Int))=true from decide_eq_true (by omega),decide_eq_true (rfl:((gd p 0).rows.length:Int)=_)]
 rfl
theorem toRecd_ev (p:List D) (N:Nat):evFn Try.prog (find [toShareSdE]) N [0,1,2,3] Try.f31 (.one (.agg rDRec)) [⟨ag rLRec,p⟩]=some (bo,nd (okShareS (gd p 4)) (some (1,cpRec p))):=by kernel_rfl
def toRecdE:Ent:=(31,e1 (ag rLRec) fun p=>(⟨.one (.agg rDRec),cpRec p⟩,okRec p))
theorem toRecd_ok:EntOk Try.prog toRecdE:=e1_ok fun p h=>evFn_sound (N:=0) (ks:= [0,1,2,3]) (key:=bo) (find_ok (fC ⟨toShareSd_ok,fN⟩)) (enters Try.func31) Try.func31 fun _=>by
 have h:okRec p=true:=h
 simp only [okRec,Bool.and_eq_true] at h
 rw [toRecd_ev]
 simp only [nd,h,cond_true]
noncomputable def toRecSdL (N:Nat) (p:List D):List D→Out:=loopOf Try.prog (find [toRecdE,deepE [7]]) N [0,2,3,4,11] Try.f17 (.one (.c (.own (0,1000000) true 45))) [⟨sd (.sl 60),p⟩] 0
theorem toRecSd_rd (p:List D) (N:Nat) (z x2:D) (rows:List (List D)) (k:Int):toRecSdL N p [z,x2,.l rows,.i k]=bif decide (k<z.rows.length) then nd (inRange k z.rows.length) (nd (okRec (sub (z.rows.getD k.toNat []) 0 5)) (nd (inRange k rows.length) (nx [z,x2,.l (rows.set k.toNat (cpRec (sub (z.rows.getD k.toNat []) 0 5))),.i (w64 (k+1))]))) else ex 0 [z,x2,.l rows,.i k]:=by kernel_rfl
theorem toRecSd_ev (p:List D) (N:Nat):evFn Try.prog (find [toRecdE,deepE [7]]) N [0,2,3,4,11] Try.f17 (.one (.c (.own (0,1000000) true 45))) [⟨sd (.sl 60),p⟩]=some (bo,nd (decide (0≤((gd p 0).rows.length:Int))&&decide (((gd p 0).rows.length:Int)=((gd p 0).rows.length:Int))&&decide (((gd p 0).rows.length:Int)≤4294967296)&&true&&true)
  (let o:=iter (toRecSdL N p) N [gd p 0,.l [],.l (List.replicate (gd p 0).rows.length [.i 0,.i 0,.i 0,.i 0,.l []]),.i 0]
   nd o.isSome (nd (o.code==2) (some (1,[gd o.pay 2]))))):=by kernel_rfl
def toRecSdE:Ent:=(17,e1 (sd (.sl 60)) fun p=>(⟨.one (.c (.own (0,1000000) true 45)),[cpRecS (gd p 0)]⟩,okRecS (gd p 0)))
theorem toRecSd_ok:EntOk Try.prog toRecSdE:=e1_ok fun p h=>evFn_sound (N:=(gd p 0).rows.length+1) (ks:= [0,2,3,4,11]) (key:=bo) (find_ok (fC ⟨toRecd_ok,fC ⟨deepE_ok _,fN⟩⟩)) (enters Try.func17) Try.func17 fun hw=>by
 have h:okRecS (gd p 0)=true:=h
 simp only [okRecS,Bool.and_eq_true,decide_eq_true_eq,List.all_eq_true] at h
 rw [toRecSd_ev,fill_loop (ok:=fun r=>okRec (sub r 0 5)) (f:=fun r=>cpRec (sub r 0 5)) [.i 0,.i 0,.i 0,.i 0,.l []] (wt_sl (hw ⟨sd (.sl 60),p⟩ (by simp))) h.2 (toRecSd_rd p _ _ _) (by omega)]
 rw [show decide (((gd p 0).rows.length:Int)≤4294967296)=true from decide_eq_true (by omega),show decide (0≤((gd p 0).rows.length:Int))=true from decide_eq_true (by omega),decide_eq_true (rfl:((gd p 0).rows.length:Int)=_)]
 rfl
theorem toCoordd_ev (p:List D) (N:Nat):evFn Try.prog (find [toRecSdE,toIntSdE]) N [0,1,2,3] Try.f6 (.one (.agg rDCoord)) [⟨ag rLCoord,p⟩]=some (bo,nd (okRecS (gd p 0)) (nd (okIntS (gd p 1)) (some (1,cpCoord p)))):=by kernel_rfl
def toCoorddE:Ent:=(6,e1 (ag rLCoord) fun p=>(⟨.one (.agg rDCoord),cpCoord p⟩,okCoord p))
theorem toCoordd_ok:EntOk Try.prog toCoorddE:=e1_ok fun p h=>evFn_sound (N:=0) (ks:= [0,1,2,3]) (key:=bo) (find_ok (fC ⟨toRecSd_ok,fC ⟨toIntSd_ok,fN⟩⟩)) (enters Try.func6) Try.func6 fun _=>by
 have h:okCoord p=true:=h
 simp only [okCoord,Bool.and_eq_true] at h
 rw [toCoordd_ev]
 simp only [nd,h.1,h.2,cond_true]
end Go.Proofs.Ytecefnhhlaolmaa
namespace Go.Proofs.Ytecefnhhlaolmaa
def eM (s:Sh) (F:List D→D→T × Bool):List T→Option (T × Bool)
 | [v,⟨.one (.c (.d (.int .i64))),[kd]⟩]=>bif v.sh==s then some (F v.p kd) else none
 | _=>none
theorem eM_ok {P:Program} {f:FuncId} {s:Sh} {F:List D→D→T × Bool} (h:∀ p q,(F p q).2=true→SoundFn P f [⟨s,p⟩,.c (.d (.int .i64)) q] (F p q).1):EntOk P (f,eM s F):=by
 intro args r hr0
 have hr:eM s F args=some (r,true):=hr0
 clear hr0
 unfold eM at hr
 split at hr
 ·rename_i v kd
  cases hb:(v.sh==s) with
  | false=>rw [hb] at hr; cases hr
  | true =>
   rw [hb,cond_true,Option.some.injEq] at hr
   obtain ⟨sh,p⟩:=v
   have e:sh=s:=by simpa using hb
   subst e
   have:=h p kd
   rw [hr] at this
   exact this rfl
 ·cases hr
inductive Fld where
 | i (off:Nat)
 | b (off:Nat)
 | m (off:Nat) (F:List D→D→List D) (c:D→Nat)
def stF (w:Nat) (f:Fld) (r:List D) (k:D):List D × D:=
 match f with
 | .i off=>(setSub (sub r 0 w) off [k],.i (w64 (k.int+1)))
 | .b off=>(setSub (sub r 0 w) off [.b (k.int.tmod 3==0)],.i (w64 (k.int+1)))
 | .m off F _=>(setSub (sub r 0 w) off [gd (F [gd r off] k) 1],gd (F [gd r off] k) 0)
def rowF (w:Nat):List Fld→List D→D→List D × D
 | [],r,k=>(r,k)
 | f::fs,r,k=>rowF w fs (stF w f r k).1 (stF w f r k).2
def rnd (w:Nat) (i:Int):List Fld→List (List D)→D→(List (List D)→D→Out)→Out
 | [],rows,k,K=>K rows k
 | f::fs,rows,k,K=>nd (inRange i rows.length) (rnd w i fs (rows.set i.toNat (stF w f (rows.getD i.toNat []) k).1) (stF w f (rows.getD i.toNat []) k).2 K)
theorem getD_set_self {l:List (List D)} {i:Nat} {a:List D} (h:i<l.length):(l.set i a).getD i []=a:=by
 simp [List.getD_eq_getElem?_getD,h]
theorem rnd_eq {w i:Nat} {K:List (List D)→D→Out}:∀ {fs:List Fld} {rows:List (List D)} {k:D},i<rows.length→rnd w (i:Int) fs rows k K=K (rows.set i (rowF w fs (rows.getD i []) k).1) (rowF w fs (rows.getD i []) k).2
 | [],rows,k,h=>by
  simp only [rnd,rowF]
  congr 1
  rw [List.getD_eq_getElem?_getD,List.getElem?_eq_getElem h]
  simp
 | f::fs,rows,k,h=>by
  simp only [rnd,rowF,Int.toNat_natCast]
  rw [nd_ix h,rnd_eq (by simpa using h),getD_set_self h,List.set_set]
def mkTo (f:List D→D→List D × D) (rows:List (List D)) (k:D):Nat→List (List D) × D
 | 0=>(rows,k)
 | j+1=>((mkTo f rows k j).1.set j (f ((mkTo f rows k j).1.getD j []) (mkTo f rows k j).2).1,(f ((mkTo f rows k j).1.getD j []) (mkTo f rows k j).2).2)
theorem mkTo_len (f:List D→D→List D × D) (rows:List (List D)) (k:D):∀ j,(mkTo f rows k j).1.length=rows.length
 | 0=>rfl
 | j+1=>by simp [mkTo,mkTo_len f rows k j]
theorem mkTo_hi (f:List D→D→List D × D) (rows:List (List D)) (k:D):∀ j i,j≤i→(mkTo f rows k j).1.getD i []=rows.getD i []
 | 0,i,_=>rfl
 | j+1,i,h=>by
  rw [← mkTo_hi f rows k j i (by omega)]
  simp only [mkTo,List.getD_eq_getElem?_getD,List.getElem?_set]
  rw [if_neg (by omega)]
def mkZ (f:List D→D→List D × D) (z k:D):Nat→D
 | 0=>z
 | j+1=>.l (mkTo f z.rows k (j+1)).1
theorem mkZ_rows (f:List D→D→List D × D) (z k:D):∀ j,(mkZ f z k j).rows=(mkTo f z.rows k j).1
 | 0=>rfl
 | _+1=>rfl
def mkAll (f:List D→D→List D × D) (z k:D):List D:= [(mkTo f z.rows k z.rows.length).2,mkZ f z k z.rows.length]
theorem mk_loop {L:List D→Out} {w:Nat} {fs:List Fld} {x2:D} (h:∀ x0 x1 x3,L [x0,x1,x2,x3]=bif ltI x3.int (x0.rows.length:Int) then rnd w x3.int fs x0.rows x1 (fun rows k=>nx [.l rows,k,x2,.i (w64 (x3.int+1))]) else ex 0 [x0,x1,x2,x3]) {z k:D} (hl:z.rows.length≤9223372036854775807) :
  iter L (z.rows.length+1) [z,k,x2,.i 0]=some (2,[mkZ (rowF w fs) z k z.rows.length,(mkTo (rowF w fs) z.rows k z.rows.length).2,x2,.i (z.rows.length:Int)]):=by
 have e:=run_loop (L:=L) (fun j => [mkZ (rowF w fs) z k j,(mkTo (rowF w fs) z.rows k j).2,x2,.i (j:Int)]) z.rows.length 0 (fun j hj=>?_) ?_ (N:=z.rows.length+1) (by omega)
 ·simp only [Int.natCast_zero,Nat.zero_add] at e
  exact e
 ·have hlen:=mkTo_len (rowF w fs) z.rows k j
  rw [h]
  simp only [int_i,mkZ_rows,hlen,c_lt hj]
  rw [rnd_eq (by rw [hlen]; exact hj),w64_succ hj hl]
  rfl
 ·have hlen:=mkTo_len (rowF w fs) z.rows k z.rows.length
  rw [h]
  simp only [int_i,mkZ_rows,hlen,c_nlt]
theorem mk_sound {P:Program} {call:FuncId→List T→Option (T × Bool)} (hcall:CallOk P call) {ks:List Nat} {f:FuncId} {fn:Func} {e:TypeId} {p:List D} {q:D} {L:Nat→List D→D→List D→Out} {w:Nat} {fs:List Fld} (hen:∀ vs w,(callFunc f vs).run P w=.ok (.enter f vs) w) (hf:P.funcs[f]?=some fn)
  (hR:∀ N x0 x1 x2 x3,L N p q [x0,x1,x2,x3]=bif ltI x3.int (x0.rows.length:Int) then rnd w x3.int fs x0.rows x1 (fun rows k=>nx [.l rows,k,x2,.i (w64 (x3.int+1))]) else ex 0 [x0,x1,x2,x3])
  (hev:∀ N,evFnM P call N ks fn [⟨.one (.c (.d (.sl e))),p⟩,.c (.d (.int .i64)) q]=some (bo,(let o0:=iter (L N p q) N [gd p 0,q,.i 0,.i 0]; nd o0.isSome (nd (o0.code==2) (some (1,[gd o0.pay 1,gd o0.pay 0])))))) :
  SoundFn P f [⟨.one (.c (.d (.sl e))),p⟩,.c (.d (.int .i64)) q] ⟨shM,mkAll (rowF w fs) (gd p 0) q⟩:=by
 refine evFnM_sound (N:=(gd p 0).rows.length+1) (ks:=ks) (key:=bo) hcall hen hf fun hw=>?_
 have hl:(gd p 0).rows.length≤9223372036854775807:=by
  have hw:WD P (.sl e) (gd p 0):=hw
  cases hw with
  | sl _ _ _ _ h _=>exact h
 rw [hev,mk_loop (fun x0 x1 x3=>hR _ x0 x1 _ x3) hl]
 rfl
def Fld.off:Fld→Nat
 | .i o=>o
 | .b o=>o
 | .m o _ _=>o
def cF (r:List D):Fld→Nat
 | .i _=>1
 | .b _=>1
 | .m o _ c=>c (gd r o)
def cFs:List Fld→List D→Nat
 | [],_=>0
 | f::fs,r=>cF r f+cFs fs r
def FldOk (w:Nat):Fld→Prop
 | .i o=>o<w
 | .b o=>o<w
 | .m o F c=>o<w∧∀ x q:D,0≤q.int→q.int+c x≤4611686018427387904→(gd (F [x] q) 0).int=q.int+c x
def FldsOk (w:Nat):List Fld→Prop
 | []=>True
 | f::fs=>FldOk w f∧FldsOk w fs
def apartF:List Fld→Bool
 | []=>true
 | f::fs=>fs.all (fun g=>f.off != g.off)&&apartF fs
theorem FldOk.lt {w:Nat} {f:Fld} (h:FldOk w f):f.off<w:=by
 cases f <;> first | exact h | exact h.1
theorem gd_stF {w:Nat} {f:Fld} {r:List D} {k:D} {j:Nat} (h:f.off≠j) (hj:j<w):gd (stF w f r k).1 j=gd r j:=by
 have key:∀ (o:Nat) (d:D),o≠j→gd (setSub (sub r 0 w) o [d]) j=gd r j:=fun o d ho=>by
  show gd ((sub r 0 w).set o d) j=_
  have:gd ((sub r 0 w).set o d) j=gd (sub r 0 w) j:=by
   simp only [gd,List.getD_eq_getElem?_getD,List.getElem?_set,if_neg ho]
  rw [this,gd_sub _ _ _ _ hj,Nat.zero_add]
 cases f with
 | i o=>exact key o _ h
 | b o=>exact key o _ h
 | m o F c=>exact key o _ h
theorem cFs_congr {w:Nat} {r r':List D}:∀ {fs:List Fld},FldsOk w fs→(∀ f∈fs,gd r' f.off=gd r f.off)→cFs fs r'=cFs fs r
 | [],_,_=>rfl
 | f::fs,hok,h=>by
  have h1:cF r' f=cF r f:=by
   have:=h f (by simp)
   cases f with
   | i o=>rfl
   | b o=>rfl
   | m o F c=>show c (gd r' o)=c (gd r o); rw [show gd r' o=gd r o from this]
  simp only [cFs,h1,cFs_congr hok.2 fun g hg=>h g (by simp [hg])]
theorem FldsOk.mem {w:Nat}:∀ {fs:List Fld},FldsOk w fs→∀ f∈fs,FldOk w f
 | [],_,f,h=>by simp at h
 | g::fs,hok,f,h=>by
  rcases List.mem_cons.1 h with rfl | h
  ·exact hok.1
  ·exact hok.2.mem f h
theorem rowF_k {w:Nat}:∀ {fs:List Fld} {r:List D} {k:D},apartF fs=true→FldsOk w fs→0≤k.int→k.int+cFs fs r≤4611686018427387904→(rowF w fs r k).2.int=k.int+cFs fs r
 | [],r,k,_,_,_,_=>by simp [rowF,cFs]
 | f::fs,r,k,ha,hok,h0,h1=>by
  simp only [apartF,Bool.and_eq_true,List.all_eq_true] at ha
  simp only [cFs] at h1
  push_cast at h1
  have hc:cFs fs (stF w f r k).1=cFs fs r:=cFs_congr hok.2 fun g hg=>gd_stF (by simpa using ha.1 g hg) (hok.2.mem g hg).lt
  have hk:(stF w f r k).2.int=k.int+cF r f:=by
   cases f with
   | i o=>show w64 (k.int+1)=k.int+((1:Nat):Int); simp only [cF] at h1; rw [w64_id (by omega) (by omega)]; rfl
   | b o=>show w64 (k.int+1)=k.int+((1:Nat):Int); simp only [cF] at h1; rw [w64_id (by omega) (by omega)]; rfl
   | m o F c=>simp only [cF] at h1; exact hok.1.2 _ _ h0 (by omega)
  have:=rowF_k (r:=(stF w f r k).1) (k:=(stF w f r k).2) ha.2 hok.2 (by omega) (by rw [hc]; omega)
  simp only [rowF,cFs]
  push_cast
  omega
theorem total_take {f:List D→Nat} (rows:List (List D)):∀ j,j<rows.length→total f (rows.take (j+1))=total f (rows.take j)+f (rows.getD j []):=fun j hj=>by
 unfold total
 rw [List.take_add_one,List.map_append,List.sum_append,List.getElem?_eq_getElem hj]
 simp [List.getD_eq_getElem?_getD,hj]
theorem total_take_le {f:List D→Nat} (rows:List (List D)) (j:Nat):total f (rows.take j)≤total f rows:=by
 unfold total
 conv=>rhs; rw [← List.take_append_drop j rows]
 rw [List.map_append,List.sum_append]
 omega
theorem mkAll_k {w:Nat} {fs:List Fld} {x q:D} (ha:apartF fs=true) (hok:FldsOk w fs) (h0:0≤q.int) (h1:q.int+total (cFs fs) x.rows≤4611686018427387904):(gd (mkAll (rowF w fs) x q) 0).int=q.int+total (cFs fs) x.rows:=by
 have key:∀ j,j≤x.rows.length→(mkTo (rowF w fs) x.rows q j).2.int=q.int+total (cFs fs) (x.rows.take j):=by
  intro j
  induction j with
  | zero=>intro _; simp [mkTo,total]
  | succ j ih =>
   intro hj
   have ih:=ih (by omega)
   have ht:=total_take (f:=cFs fs) x.rows j (by omega)
   have hle:=total_take_le (f:=cFs fs) x.rows (j+1)
   simp only [mkTo]
   rw [mkTo_hi _ _ _ j j (Nat.le_refl _),rowF_k ha hok (by omega) (by omega),ih,ht]
   push_cast
   omega
 have:=key x.rows.length (Nat.le_refl _)
 rw [List.take_length] at this
 exact this
theorem bd_flat {fs:List Fld} {f:List D→List D} (h:∀ r,cFs fs (f r)≤16) (z:D):total (cFs fs) (D.l (z.rows.map fun r=>f r)).rows≤16*z.rows.length:=by
 show total (cFs fs) (z.rows.map fun r=>f r)≤_
 generalize z.rows=l
 induction l with
 | nil=>simp [total]
 | cons r l ih =>
  have:=h r
  simp only [total,List.map_cons,List.sum_cons,List.length_cons] at ih ⊢
  omega
theorem bd_deep {fs:List Fld} {f:List D→List D} {s:List D→Nat} (h:∀ r,cFs fs (f r)≤16+16*s r) (z:D):total (cFs fs) (D.l (z.rows.map fun r=>f r)).rows≤16*(z.rows.length+total s z.rows):=by
 show total (cFs fs) (z.rows.map fun r=>f r)≤_
 generalize z.rows=l
 induction l with
 | nil=>simp [total]
 | cons r l ih =>
  have:=h r
  simp only [total,List.map_cons,List.sum_cons,List.length_cons] at ih ⊢
  omega
end Go.Proofs.Ytecefnhhlaolmaa
namespace Go.Proofs.Ytecefnhhlaolmaa
inductive Fh where
 | i (off:Nat)
 | b (off:Nat)
 | m (off:Nat) (G:D→D→D)
def hrnd (i:Int) (rows:List (List D)):List Fh→D→(D→Out)→Out
 | [],k,K=>K k
 | .i off::fs,k,K=>nd (inRange i rows.length) (bif (gd (rows.getD i.toNat []) off).int != k.int then oi (-1) else hrnd i rows fs (.i (w64 (k.int+1))) K)
 | .b off::fs,k,K=>nd (inRange i rows.length) (bif !((gd (rows.getD i.toNat []) off).bool==(k.int.tmod 3==0)) then oi (-1) else hrnd i rows fs (.i (w64 (k.int+1))) K)
 | .m off G::fs,k,K=>nd (inRange i rows.length) (bif ltI (G (gd (rows.getD i.toNat []) off) k).int 0 then oi (-1) else hrnd i rows fs (G (gd (rows.getD i.toNat []) off) k) K)
def hdRow (r:List D):List Fh→D→Option D
 | [],k=>some k
 | .i off::fs,k=>bif (gd r off).int != k.int then none else hdRow r fs (.i (w64 (k.int+1)))
 | .b off::fs,k=>bif !((gd r off).bool==(k.int.tmod 3==0)) then none else hdRow r fs (.i (w64 (k.int+1)))
 | .m off G::fs,k=>bif ltI (G (gd r off) k).int 0 then none else hdRow r fs (G (gd r off) k)
theorem hrnd_eq {i:Nat} {rows:List (List D)} {K:D→Out} (hi:i<rows.length):∀ {fs:List Fh} {k:D},hrnd (i:Int) rows fs k K=(match hdRow (rows.getD i []) fs k with | some k'=>K k' | none=>oi (-1))
 | [],k=>rfl
 | .i off::fs,k=>by
  simp only [hrnd,hdRow,Int.toNat_natCast,nd_ix hi]
  cases ((gd (rows.getD i []) off).int != k.int)
  ·simp only [cond_false]; exact hrnd_eq hi
  ·rfl
 | .b off::fs,k=>by
  simp only [hrnd,hdRow,Int.toNat_natCast,nd_ix hi]
  cases (!((gd (rows.getD i []) off).bool==(k.int.tmod 3==0)))
  ·simp only [cond_false]; exact hrnd_eq hi
  ·rfl
 | .m off G::fs,k=>by
  simp only [hrnd,hdRow,Int.toNat_natCast,nd_ix hi]
  cases (ltI (G (gd (rows.getD i []) off) k).int 0)
  ·simp only [cond_false]; exact hrnd_eq hi
  ·rfl
def hdTo (fs:List Fh) (rows:List (List D)) (q:D):Nat→D
 | 0=>q
 | j+1=>(hdRow (rows.getD j []) fs (hdTo fs rows q j)).getD D0
def hdC (fs:List Fh) (rows:List (List D)) (q:D) (j:Nat):Bool:=(hdRow (rows.getD j []) fs (hdTo fs rows q j)).isSome
def hdAll (fs:List Fh) (z q:D):D:=bif (List.range z.rows.length).all (hdC fs z.rows q) then hdTo fs z.rows q z.rows.length else .i (-1)
theorem hd_sound {P:Program} {call:FuncId→List T→Option (T × Bool)} (hcall:CallOk P call) {ks:List Nat} {f:FuncId} {fn:Func} {e:TypeId} {p q:List D} {L:Nat→List D→List D→List D→Out} {fs:List Fh} (hen:∀ vs w,(callFunc f vs).run P w=.ok (.enter f vs) w) (hf:P.funcs[f]?=some fn)
  (hR:∀ N x0 x1 x2 x3,L N p q [x0,x1,x2,x3]=bif ltI x3.int (x0.rows.length:Int) then hrnd x3.int x0.rows fs x1 (fun k=>nx [x0,k,x2,.i (w64 (x3.int+1))]) else ex 0 [x0,x1,x2,x3])
  (hev:∀ N,evFn P call N ks fn ri [⟨.one (.c (.d (.sl e))),p⟩,⟨ri,q⟩]=some (bo,(let o0:=iter (L N p q) N [gd p 0,gd q 0,.i 0,.i 0]; nd o0.isSome (bif o0.code==1 then some (1,o0.pay) else nd (o0.code==2) (some (1,[gd o0.pay 1])))))) :
  SoundFn P f [⟨.one (.c (.d (.sl e))),p⟩,⟨ri,q⟩] ⟨ri,[hdAll fs (gd p 0) (gd q 0)]⟩:=by
 refine evFn_sound (N:=(gd p 0).rows.length+1) (ks:=ks) (key:=bo) hcall hen hf fun hw=>?_
 have hl:(gd p 0).rows.length≤9223372036854775807:=by
  have hw:WD P (.sl e) (gd p 0):=hw ⟨.one (.c (.d (.sl e))),p⟩ (by simp)
  cases hw with
  | sl _ _ _ _ h _=>exact h
 rw [hev]
 have e:=for_loop (L:=L ((gd p 0).rows.length+1) p q) (fun j => [gd p 0,hdTo fs (gd p 0).rows (gd q 0) j,.i 0,.i (j:Int)]) (gd p 0).rows.length (hdC fs (gd p 0).rows (gd q 0)) [.i (-1)] 0 (fun j hj=>?_) ?_ (N:=(gd p 0).rows.length+1) (by omega)
 ·simp only [Int.natCast_zero,Nat.zero_add] at e
  rw [show hdTo fs (gd p 0).rows (gd q 0) 0=gd q 0 from rfl] at e
  rw [e]
  unfold hdAll
  cases (List.range (gd p 0).rows.length).all (hdC fs (gd p 0).rows (gd q 0)) <;> rfl
 ·rw [hR]
  simp only [int_i,c_lt hj]
  rw [hrnd_eq hj,w64_succ hj hl]
  unfold hdC
  simp only [hdTo]
  cases hdRow ((gd p 0).rows.getD j []) fs (hdTo fs (gd p 0).rows (gd q 0) j) <;> rfl
 ·rw [hR]
  simp only [int_i,c_nlt]
def Fh.off:Fh→Nat
 | .i o=>o
 | .b o=>o
 | .m o _=>o
def pairF:Fld→Fh→Prop
 | .i o,.i o'=>o=o'
 | .b o,.b o'=>o=o'
 | .m o F c,.m o' G=>o=o'∧∀ x q:D,0≤q.int→q.int+c x≤4611686018427387904→G (gd (F [x] q) 1) q=gd (F [x] q) 0
 | _,_=>False
def pairFs:List Fld→List Fh→Prop
 | [],[]=>True
 | f::fs,h::hs=>pairF f h∧pairFs fs hs
 | _,_=>False
theorem pairFs.offs:∀ {fs:List Fld} {hs:List Fh},pairFs fs hs→hs.map Fh.off=fs.map Fld.off
 | [],[],_=>rfl
 | f::fs,h::hs,hp=>by
  have h1:h.off=f.off:=by
   have:=hp.1
   cases f <;> cases h <;> first | exact this.symm | exact this.1.symm | exact this.elim
  simp only [List.map_cons,h1,pairFs.offs hp.2]
 | [],_::_,hp=>hp.elim
 | _::_,[],hp=>hp.elim
theorem gd_rowF {w:Nat}:∀ {fs:List Fld} {r:List D} {k:D} {j:Nat},(∀ f∈fs,f.off≠j)→j<w→gd (rowF w fs r k).1 j=gd r j
 | [],r,k,j,_,_=>rfl
 | f::fs,r,k,j,h,hj=>by
  rw [rowF,gd_rowF (fun g hg=>h g (by simp [hg])) hj,gd_stF (h f (by simp)) hj]
theorem stF_at {w:Nat} {r:List D} {k:D}:∀ {f:Fld},f.off<w→gd (stF w f r k).1 f.off=(match f with | .i _=>k | .b _=>.b (k.int.tmod 3==0) | .m o F _=>gd (F [gd r o] k) 1):=by
 have key:∀ (o:Nat) (d:D),o<w→gd (setSub (sub r 0 w) o [d]) o=d:=fun o d ho=>by
  show gd ((sub r 0 w).set o d) o=d
  simp [gd,List.getD_eq_getElem?_getD,List.getElem?_set,sub_length,ho]
 intro f hf
 cases f with
 | i o=>exact key o _ hf
 | b o=>exact key o _ hf
 | m o F c=>exact key o _ hf
theorem held_row {w:Nat}:∀ {fs:List Fld} {hs:List Fh} {r:List D} {k:D},pairFs fs hs→apartF fs=true→FldsOk w fs→0≤k.int→k.int+cFs fs r≤4611686018427387904→hdRow (rowF w fs r k).1 hs k=some (rowF w fs r k).2
 | [],[],r,k,_,_,_,_,_=>rfl
 | [],_::_,_,_,hp,_,_,_,_=>hp.elim
 | _::_,[],_,_,hp,_,_,_,_=>hp.elim
 | f::fs,h::hs,r,k,hp,ha,hok,h0,h1=>by
  simp only [apartF,Bool.and_eq_true,List.all_eq_true] at ha
  simp only [cFs] at h1
  push_cast at h1
  have hc:cFs fs (stF w f r k).1=cFs fs r:=cFs_congr hok.2 fun g hg=>gd_stF (by simpa using ha.1 g hg) (hok.2.mem g hg).lt
  have hk:(stF w f r k).2.int=k.int+cF r f:=by
   cases f with
   | i o=>show w64 (k.int+1)=k.int+((1:Nat):Int); simp only [cF] at h1; rw [w64_id (by omega) (by omega)]; rfl
   | b o=>show w64 (k.int+1)=k.int+((1:Nat):Int); simp only [cF] at h1; rw [w64_id (by omega) (by omega)]; rfl
   | m o F c=>simp only [cF] at h1; exact hok.1.2 _ _ h0 (by omega)
  have ih:=held_row (r:=(stF w f r k).1) (k:=(stF w f r k).2) hp.2 ha.2 hok.2 (by omega) (by rw [hc]; omega)
  have hg:gd (rowF w fs (stF w f r k).1 (stF w f r k).2).1 f.off=gd (stF w f r k).1 f.off:=gd_rowF (fun g hg e=>by have:=ha.1 g hg; rw [e] at this; simp at this) hok.1.lt
  rw [stF_at hok.1.lt] at hg
  simp only [rowF]
  have hp1:=hp.1
  cases f with
  | i o =>
   cases h with
   | i o' =>
    have e:o=o':=hp1
    subst e
    simp only [Fld.off] at hg
    simp only [hdRow,hg,bne_self_eq_false,cond_false]
    exact ih
   | _=>exact hp1.elim
  | b o =>
   cases h with
   | b o' =>
    have e:o=o':=hp1
    subst e
    simp only [Fld.off] at hg
    simp only [hdRow,hg,bool_b,beq_self_eq_true,Bool.not_true,cond_false]
    exact ih
   | _=>exact hp1.elim
  | m o F c =>
   cases h with
   | m o' G =>
    obtain ⟨e,hG⟩:=hp1
    subst e
    simp only [Fld.off] at hg
    simp only [cF] at h1 hk
    have e1:=hG (gd r o) k h0 (by omega)
    simp only [hdRow,hg,e1]
    rw [show (gd (F [gd r o] k) 0)=(stF w (.m o F c) r k).2 from rfl,ltI_f (by omega),cond_false]
    exact ih
   | _=>exact hp1.elim
theorem held_all {w:Nat} {fs:List Fld} {hs:List Fh} {x q:D} (hp:pairFs fs hs) (ha:apartF fs=true) (hok:FldsOk w fs) (h0:0≤q.int) (h1:q.int+total (cFs fs) x.rows≤4611686018427387904):hdAll hs (gd (mkAll (rowF w fs) x q) 1) q=gd (mkAll (rowF w fs) x q) 0:=by
 show hdAll hs (mkZ (rowF w fs) x q x.rows.length) q=(mkTo (rowF w fs) x.rows q x.rows.length).2
 have hk:∀ j,j≤x.rows.length→(mkTo (rowF w fs) x.rows q j).2.int=q.int+total (cFs fs) (x.rows.take j):=by
  intro j
  induction j with
  | zero=>intro _; simp [mkTo,total]
  | succ j ih =>
   intro hj
   have ih:=ih (by omega)
   have ht:=total_take (f:=cFs fs) x.rows j (by omega)
   have hle:=total_take_le (f:=cFs fs) x.rows (j+1)
   simp only [mkTo]
   rw [mkTo_hi _ _ _ j j (Nat.le_refl _),rowF_k ha hok (by omega) (by omega),ih,ht]
   push_cast
   omega
 have hlo:∀ n j,j<n→n≤x.rows.length→(mkTo (rowF w fs) x.rows q n).1.getD j []=(rowF w fs (x.rows.getD j []) (mkTo (rowF w fs) x.rows q j).2).1:=by
  intro n
  induction n with
  | zero=>intro j hj; omega
  | succ n ih =>
   intro j hj hn
   simp only [mkTo]
   by_cases e:j=n
   ·subst e
    rw [getD_set_self (by rw [mkTo_len]; omega),mkTo_hi _ _ _ j j (Nat.le_refl _)]
   ·rw [← ih j (by omega) (by omega)]
    simp only [List.getD_eq_getElem?_getD,List.getElem?_set]
    rw [if_neg (by omega)]
 have hrow:∀ j,j<x.rows.length→hdRow ((mkTo (rowF w fs) x.rows q x.rows.length).1.getD j []) hs (mkTo (rowF w fs) x.rows q j).2=some (mkTo (rowF w fs) x.rows q (j+1)).2:=by
  intro j hj
  have ht:=total_take (f:=cFs fs) x.rows j (by omega)
  have hle:=total_take_le (f:=cFs fs) x.rows (j+1)
  have hkj:=hk j (by omega)
  rw [hlo _ j hj (Nat.le_refl _),held_row hp ha hok (by omega) (by omega)]
  simp only [mkTo]
  rw [mkTo_hi _ _ _ j j (Nat.le_refl _)]
 have hto:∀ j,j≤x.rows.length→hdTo hs (mkTo (rowF w fs) x.rows q x.rows.length).1 q j=(mkTo (rowF w fs) x.rows q j).2:=by
  intro j
  induction j with
  | zero=>intro _; rfl
  | succ j ih =>
   intro hj
   simp only [hdTo]
   rw [ih (by omega),hrow j (by omega)]
   rfl
 unfold hdAll
 rw [mkZ_rows,mkTo_len]
 have hall:(List.range x.rows.length).all (hdC hs (mkTo (rowF w fs) x.rows q x.rows.length).1 q)=true:=by
  rw [List.all_eq_true]
  intro j hj
  have hj:=List.mem_range.1 hj
  unfold hdC
  rw [hto j (by omega),hrow j hj]
  rfl
 rw [hall,cond_true,hto _ (Nat.le_refl _)]
end Go.Proofs.Ytecefnhhlaolmaa
namespace Go.Proofs.Ytecefnhhlaolmaa
set_option maxRecDepth 4096
set_option maxHeartbeats 1000000
abbrev mkIntST:FuncId→List T→Option (T × Bool):=find []
theorem mkIntST_ok:CallOk Try.prog mkIntST:=find_ok (fN)
abbrev mkIntSK:List Nat:= [0,1,4,5,9]
noncomputable def mkIntSL (N:Nat) (p:List D) (q:D):List D→Out:=loopOfM Try.prog mkIntST N mkIntSK Try.f25 [⟨sd (.sl 3),p⟩,.c (.d si) q] 0
def mkIntSf:List Fld:= [.i 0]
def mkIntS (p:List D) (q:D):List D:=mkAll (rowF 1 mkIntSf) (gd p 0) q
def ctIntS (z:D):Nat:=total (cFs mkIntSf) z.rows
theorem mkIntSR (N:Nat) (p:List D) (q x0 x1 x2 x3:D):mkIntSL N p q [x0,x1,x2,x3]=bif ltI x3.int (x0.rows.length:Int) then rnd 1 x3.int mkIntSf x0.rows x1 (fun rows k=>nx [.l rows,k,x2,.i (w64 (x3.int+1))]) else ex 0 [x0,x1,x2,x3]:=by kernel_rfl
theorem mkIntS_ev (N:Nat) (p:List D) (q:D):evFnM Try.prog mkIntST N mkIntSK Try.f25 [⟨sd (.sl 3),p⟩,.c (.d si) q]=some (bo,(let o0:=iter (mkIntSL N p q) N [gd p 0,q,.i 0,.i 0]; nd o0.isSome (nd (o0.code==2) (some (1,[gd o0.pay 1,gd o0.pay 0]))))):=by kernel_rfl
def mkIntSE:Ent:=(25,eM (sd (.sl 3)) fun p q=>(⟨shM,mkIntS p q⟩,true))
theorem mkIntS_ok:EntOk Try.prog mkIntSE:=eM_ok fun p q _=>mk_sound (L:=mkIntSL) (fs:=mkIntSf) (w:=1) (ks:=mkIntSK) mkIntST_ok (enters Try.func25) Try.func25 (fun N x0 x1 x2 x3=>mkIntSR N p q x0 x1 x2 x3) (fun N=>mkIntS_ev N p q)
theorem mkIntS_k {x q:D} (h0:0≤q.int) (h1:q.int+ctIntS x≤4611686018427387904):(gd (mkIntS [x] q) 0).int=q.int+ctIntS x:=mkAll_k (w:=1) (fs:=mkIntSf) (by decide) (by
 unfold mkIntSf
 exact ⟨(by decide:0<1),trivial⟩) h0 h1
theorem bdIntS (z:D):ctIntS (cpIntS z)≤16*sizeIntS z:=bd_flat (f:=fun r=>cpInt r) (fun r=>by show 1+0≤16; omega) z
abbrev mkRangeST:FuncId→List T→Option (T × Bool):=find []
theorem mkRangeST_ok:CallOk Try.prog mkRangeST:=find_ok (fN)
abbrev mkRangeSK:List Nat:= [0,1,4,5,9]
noncomputable def mkRangeSL (N:Nat) (p:List D) (q:D):List D→Out:=loopOfM Try.prog mkRangeST N mkRangeSK Try.f57 [⟨sd (.sl 93),p⟩,.c (.d si) q] 0
def mkRangeSf:List Fld:= [.i 0,.i 1]
def mkRangeS (p:List D) (q:D):List D:=mkAll (rowF 2 mkRangeSf) (gd p 0) q
def ctRangeS (z:D):Nat:=total (cFs mkRangeSf) z.rows
theorem mkRangeSR (N:Nat) (p:List D) (q x0 x1 x2 x3:D):mkRangeSL N p q [x0,x1,x2,x3]=bif ltI x3.int (x0.rows.length:Int) then rnd 2 x3.int mkRangeSf x0.rows x1 (fun rows k=>nx [.l rows,k,x2,.i (w64 (x3.int+1))]) else ex 0 [x0,x1,x2,x3]:=by kernel_rfl
theorem mkRangeS_ev (N:Nat) (p:List D) (q:D):evFnM Try.prog mkRangeST N mkRangeSK Try.f57 [⟨sd (.sl 93),p⟩,.c (.d si) q]=some (bo,(let o0:=iter (mkRangeSL N p q) N [gd p 0,q,.i 0,.i 0]; nd o0.isSome (nd (o0.code==2) (some (1,[gd o0.pay 1,gd o0.pay 0]))))):=by kernel_rfl
def mkRangeSE:Ent:=(57,eM (sd (.sl 93)) fun p q=>(⟨shM,mkRangeS p q⟩,true))
theorem mkRangeS_ok:EntOk Try.prog mkRangeSE:=eM_ok fun p q _=>mk_sound (L:=mkRangeSL) (fs:=mkRangeSf) (w:=2) (ks:=mkRangeSK) mkRangeST_ok (enters Try.func57) Try.func57 (fun N x0 x1 x2 x3=>mkRangeSR N p q x0 x1 x2 x3) (fun N=>mkRangeS_ev N p q)
theorem mkRangeS_k {x q:D} (h0:0≤q.int) (h1:q.int+ctRangeS x≤4611686018427387904):(gd (mkRangeS [x] q) 0).int=q.int+ctRangeS x:=mkAll_k (w:=2) (fs:=mkRangeSf) (by decide) (by
 unfold mkRangeSf
 exact ⟨(by decide:0<2),(by decide:1<2),trivial⟩) h0 h1
theorem bdRangeS (z:D):ctRangeS (cpRangeS z)≤16*sizeRangeS z:=bd_flat (f:=fun r=>cpRange (sub r 0 2)) (fun r=>by show 1+(1+(0))≤16; omega) z
abbrev mkCellST:FuncId→List T→Option (T × Bool):=find []
theorem mkCellST_ok:CallOk Try.prog mkCellST:=find_ok (fN)
abbrev mkCellSK:List Nat:= [0,1,4,5,9]
noncomputable def mkCellSL (N:Nat) (p:List D) (q:D):List D→Out:=loopOfM Try.prog mkCellST N mkCellSK Try.f11 [⟨sd (.sl 53),p⟩,.c (.d si) q] 0
def mkCellSf:List Fld:= [.i 0,.i 1]
def mkCellS (p:List D) (q:D):List D:=mkAll (rowF 2 mkCellSf) (gd p 0) q
def ctCellS (z:D):Nat:=total (cFs mkCellSf) z.rows
theorem mkCellSR (N:Nat) (p:List D) (q x0 x1 x2 x3:D):mkCellSL N p q [x0,x1,x2,x3]=bif ltI x3.int (x0.rows.length:Int) then rnd 2 x3.int mkCellSf x0.rows x1 (fun rows k=>nx [.l rows,k,x2,.i (w64 (x3.int+1))]) else ex 0 [x0,x1,x2,x3]:=by kernel_rfl
theorem mkCellS_ev (N:Nat) (p:List D) (q:D):evFnM Try.prog mkCellST N mkCellSK Try.f11 [⟨sd (.sl 53),p⟩,.c (.d si) q]=some (bo,(let o0:=iter (mkCellSL N p q) N [gd p 0,q,.i 0,.i 0]; nd o0.isSome (nd (o0.code==2) (some (1,[gd o0.pay 1,gd o0.pay 0]))))):=by kernel_rfl
def mkCellSE:Ent:=(11,eM (sd (.sl 53)) fun p q=>(⟨shM,mkCellS p q⟩,true))
theorem mkCellS_ok:EntOk Try.prog mkCellSE:=eM_ok fun p q _=>mk_sound (L:=mkCellSL) (fs:=mkCellSf) (w:=2) (ks:=mkCellSK) mkCellST_ok (enters Try.func11) Try.func11 (fun N x0 x1 x2 x3=>mkCellSR N p q x0 x1 x2 x3) (fun N=>mkCellS_ev N p q)
theorem mkCellS_k {x q:D} (h0:0≤q.int) (h1:q.int+ctCellS x≤4611686018427387904):(gd (mkCellS [x] q) 0).int=q.int+ctCellS x:=mkAll_k (w:=2) (fs:=mkCellSf) (by decide) (by
 unfold mkCellSf
 exact ⟨(by decide:0<2),(by decide:1<2),trivial⟩) h0 h1
abbrev mkWriteST:FuncId→List T→Option (T × Bool):=find []
theorem mkWriteST_ok:CallOk Try.prog mkWriteST:=find_ok (fN)
abbrev mkWriteSK:List Nat:= [0,1,4,5,9]
noncomputable def mkWriteSL (N:Nat) (p:List D) (q:D):List D→Out:=loopOfM Try.prog mkWriteST N mkWriteSK Try.f58 [⟨sd (.sl 67),p⟩,.c (.d si) q] 0
def mkWriteSf:List Fld:= [.i 0,.i 1]
def mkWriteS (p:List D) (q:D):List D:=mkAll (rowF 2 mkWriteSf) (gd p 0) q
def ctWriteS (z:D):Nat:=total (cFs mkWriteSf) z.rows
theorem mkWriteSR (N:Nat) (p:List D) (q x0 x1 x2 x3:D):mkWriteSL N p q [x0,x1,x2,x3]=bif ltI x3.int (x0.rows.length:Int) then rnd 2 x3.int mkWriteSf x0.rows x1 (fun rows k=>nx [.l rows,k,x2,.i (w64 (x3.int+1))]) else ex 0 [x0,x1,x2,x3]:=by kernel_rfl
theorem mkWriteS_ev (N:Nat) (p:List D) (q:D):evFnM Try.prog mkWriteST N mkWriteSK Try.f58 [⟨sd (.sl 67),p⟩,.c (.d si) q]=some (bo,(let o0:=iter (mkWriteSL N p q) N [gd p 0,q,.i 0,.i 0]; nd o0.isSome (nd (o0.code==2) (some (1,[gd o0.pay 1,gd o0.pay 0]))))):=by kernel_rfl
def mkWriteSE:Ent:=(58,eM (sd (.sl 67)) fun p q=>(⟨shM,mkWriteS p q⟩,true))
theorem mkWriteS_ok:EntOk Try.prog mkWriteSE:=eM_ok fun p q _=>mk_sound (L:=mkWriteSL) (fs:=mkWriteSf) (w:=2) (ks:=mkWriteSK) mkWriteST_ok (enters Try.func58) Try.func58 (fun N x0 x1 x2 x3=>mkWriteSR N p q x0 x1 x2 x3) (fun N=>mkWriteS_ev N p q)
theorem mkWriteS_k {x q:D} (h0:0≤q.int) (h1:q.int+ctWriteS x≤4611686018427387904):(gd (mkWriteS [x] q) 0).int=q.int+ctWriteS x:=mkAll_k (w:=2) (fs:=mkWriteSf) (by decide) (by
 unfold mkWriteSf
 exact ⟨(by decide:0<2),(by decide:1<2),trivial⟩) h0 h1
theorem bdWriteS (z:D):ctWriteS (cpWriteS z)≤16*sizeWriteS z:=bd_flat (f:=fun r=>cpWrite (sub r 0 2)) (fun r=>by show 1+(1+(0))≤16; omega) z
abbrev mkShareST:FuncId→List T→Option (T × Bool):=find [mkRangeSE,mkWriteSE]
theorem mkShareST_ok:CallOk Try.prog mkShareST:=find_ok (fC ⟨mkRangeS_ok,fC ⟨mkWriteS_ok,fN⟩⟩)
abbrev mkShareSK:List Nat:= [0,1,4,5,9]
noncomputable def mkShareSL (N:Nat) (p:List D) (q:D):List D→Out:=loopOfM Try.prog mkShareST N mkShareSK Try.f39 [⟨sd (.sl 49),p⟩,.c (.d si) q] 0
def mkShareSf:List Fld:= [.i 0,.m 1 mkRangeS ctRangeS,.m 2 mkWriteS ctWriteS,.i 3]
def mkShareS (p:List D) (q:D):List D:=mkAll (rowF 4 mkShareSf) (gd p 0) q
def ctShareS (z:D):Nat:=total (cFs mkShareSf) z.rows
theorem mkShareSR (N:Nat) (p:List D) (q x0 x1 x2 x3:D):mkShareSL N p q [x0,x1,x2,x3]=bif ltI x3.int (x0.rows.length:Int) then rnd 4 x3.int mkShareSf x0.rows x1 (fun rows k=>nx [.l rows,k,x2,.i (w64 (x3.int+1))]) else ex 0 [x0,x1,x2,x3]:=by kernel_rfl
theorem mkShareS_ev (N:Nat) (p:List D) (q:D):evFnM Try.prog mkShareST N mkShareSK Try.f39 [⟨sd (.sl 49),p⟩,.c (.d si) q]=some (bo,(let o0:=iter (mkShareSL N p q) N [gd p 0,q,.i 0,.i 0]; nd o0.isSome (nd (o0.code==2) (some (1,[gd o0.pay 1,gd o0.pay 0]))))):=by kernel_rfl
def mkShareSE:Ent:=(39,eM (sd (.sl 49)) fun p q=>(⟨shM,mkShareS p q⟩,true))
theorem mkShareS_ok:EntOk Try.prog mkShareSE:=eM_ok fun p q _=>mk_sound (L:=mkShareSL) (fs:=mkShareSf) (w:=4) (ks:=mkShareSK) mkShareST_ok (enters Try.func39) Try.func39 (fun N x0 x1 x2 x3=>mkShareSR N p q x0 x1 x2 x3) (fun N=>mkShareS_ev N p q)
theorem mkShareS_k {x q:D} (h0:0≤q.int) (h1:q.int+ctShareS x≤4611686018427387904):(gd (mkShareS [x] q) 0).int=q.int+ctShareS x:=mkAll_k (w:=4) (fs:=mkShareSf) (by decide) (by
 unfold mkShareSf
 exact ⟨(by decide:0<4),⟨by decide,fun x q h0 h1=>mkRangeS_k h0 h1⟩,⟨by decide,fun x q h0 h1=>mkWriteS_k h0 h1⟩,(by decide:3<4),trivial⟩) h0 h1
theorem bdShareS (z:D):ctShareS (cpShareS z)≤16*sizeShareS z:=bd_deep (f:=fun r=>cpShare (sub r 0 4)) (s:=fun r=>sizeShare (sub r 0 4)) (fun r=>by
 show 1+(ctRangeS (cpRangeS (gd r 1))+(ctWriteS (cpWriteS (gd r 2))+(1+(0))))≤16+16*(sizeRangeS (gd r 1)+(sizeWriteS (gd r 2)))
 have:=bdRangeS (gd r 1); have:=bdWriteS (gd r 2)
 omega) z
abbrev mkRecST:FuncId→List T→Option (T × Bool):=find [mkShareSE]
theorem mkRecST_ok:CallOk Try.prog mkRecST:=find_ok (fC ⟨mkShareS_ok,fN⟩)
abbrev mkRecSK:List Nat:= [0,1,4,5,9]
noncomputable def mkRecSL (N:Nat) (p:List D) (q:D):List D→Out:=loopOfM Try.prog mkRecST N mkRecSK Try.f24 [⟨sd (.sl 45),p⟩,.c (.d si) q] 0
def mkRecSf:List Fld:= [.i 0,.i 1,.i 2,.i 3,.m 4 mkShareS ctShareS]
def mkRecS (p:List D) (q:D):List D:=mkAll (rowF 5 mkRecSf) (gd p 0) q
def ctRecS (z:D):Nat:=total (cFs mkRecSf) z.rows
theorem mkRecSR (N:Nat) (p:List D) (q x0 x1 x2 x3:D):mkRecSL N p q [x0,x1,x2,x3]=bif ltI x3.int (x0.rows.length:Int) then rnd 5 x3.int mkRecSf x0.rows x1 (fun rows k=>nx [.l rows,k,x2,.i (w64 (x3.int+1))]) else ex 0 [x0,x1,x2,x3]:=by kernel_rfl
theorem mkRecS_ev (N:Nat) (p:List D) (q:D):evFnM Try.prog mkRecST N mkRecSK Try.f24 [⟨sd (.sl 45),p⟩,.c (.d si) q]=some (bo,(let o0:=iter (mkRecSL N p q) N [gd p 0,q,.i 0,.i 0]; nd o0.isSome (nd (o0.code==2) (some (1,[gd o0.pay 1,gd o0.pay 0]))))):=by kernel_rfl
def mkRecSE:Ent:=(24,eM (sd (.sl 45)) fun p q=>(⟨shM,mkRecS p q⟩,true))
theorem mkRecS_ok:EntOk Try.prog mkRecSE:=eM_ok fun p q _=>mk_sound (L:=mkRecSL) (fs:=mkRecSf) (w:=5) (ks:=mkRecSK) mkRecST_ok (enters Try.func24) Try.func24 (fun N x0 x1 x2 x3=>mkRecSR N p q x0 x1 x2 x3) (fun N=>mkRecS_ev N p q)
theorem mkRecS_k {x q:D} (h0:0≤q.int) (h1:q.int+ctRecS x≤4611686018427387904):(gd (mkRecS [x] q) 0).int=q.int+ctRecS x:=mkAll_k (w:=5) (fs:=mkRecSf) (by decide) (by
 unfold mkRecSf
 exact ⟨(by decide:0<5),(by decide:1<5),(by decide:2<5),(by decide:3<5),⟨by decide,fun x q h0 h1=>mkShareS_k h0 h1⟩,trivial⟩) h0 h1
theorem bdRecS (z:D):ctRecS (cpRecS z)≤16*sizeRecS z:=bd_deep (f:=fun r=>cpRec (sub r 0 5)) (s:=fun r=>sizeRec (sub r 0 5)) (fun r=>by
 show 1+(1+(1+(1+(ctShareS (cpShareS (gd r 4))+(0)))))≤16+16*(sizeShareS (gd r 4))
 have:=bdShareS (gd r 4)
 omega) z
abbrev mkCoordT:FuncId→List T→Option (T × Bool):=find [mkRecSE,mkIntSE]
theorem mkCoordT_ok:CallOk Try.prog mkCoordT:=find_ok (fC ⟨mkRecS_ok,fC ⟨mkIntS_ok,fN⟩⟩)
abbrev mkCoordK:List Nat:= [0,1,2,4]
def mkCoord (p:List D) (q:D):List D:=
 let r1:=mkRecS ([gd p 0]) q
 let r2:=mkIntS ([gd p 1]) (gd r1 0)
 [gd r2 0,.l (gd r1 1).rows,.l (gd r2 1).rows]
def ctCoord (p:List D):Nat:=ctRecS (gd p 0)+(ctIntS (gd p 1))
theorem mkCoord_ev (p:List D) (q:D):evFnM Try.prog mkCoordT 0 mkCoordK Try.f10 [⟨ag rICoord,p⟩,.c (.d si) q]=some (bo,some (1,mkCoord p q)):=by kernel_rfl
def mkCoordE:Ent:=(10,eM (ag rICoord) fun p q=>(⟨shM,mkCoord p q⟩,true))
theorem mkCoord_ok:EntOk Try.prog mkCoordE:=eM_ok fun p q _=>evFnM_sound (N:=0) (ks:=mkCoordK) (key:=bo) mkCoordT_ok (enters Try.func10) Try.func10 fun hw=>mkCoord_ev p q
theorem mkCoord_k {p:List D} {q:D} (h0:0≤q.int) (h1:q.int+ctCoord p≤4611686018427387904):(gd (mkCoord p q) 0).int=q.int+ctCoord p:=by
 unfold ctCoord at h1 ⊢
 have e1:=mkRecS_k (x:=gd p 0) (q:=q) (by omega) (by omega)
 have e2:=mkIntS_k (x:=gd p 1) (q:=gd (mkRecS [gd p 0] q) 0) (by omega) (by omega)
 show (gd (mkIntS [gd p 1] (gd (mkRecS [gd p 0] q) 0)) 0).int=_
 omega
theorem bdCoord (p:List D):ctCoord (cpCoord p)≤16*sizeCoord p:=by
 have:=bdRecS (gd p 0)
 have:=bdIntS (gd p 1)
 show ctRecS (cpRecS (gd p 0))+(ctIntS (cpIntS (gd p 1)))≤16*(sizeRecS (gd p 0)+(sizeIntS (gd p 1)))
 omega
end Go.Proofs.Ytecefnhhlaolmaa
namespace Go.Proofs.Ytecefnhhlaolmaa
set_option maxRecDepth 4096
set_option maxHeartbeats 1000000
abbrev hdCellST:FuncId→List T→Option (T × Bool):=find []
theorem hdCellST_ok:CallOk Try.prog hdCellST:=find_ok (fN)
abbrev hdCellSK:List Nat:= [0,1,4,5,9,18,27]
noncomputable def hdCellSL (N:Nat) (p q:List D):List D→Out:=loopOf Try.prog hdCellST N hdCellSK Try.f12 ri [⟨sd (.sl 53),p⟩,⟨ri,q⟩] 0
def hdCellSf:List Fh:= [.i 0,.i 1]
def hdCellS (x q:D):D:=hdAll hdCellSf x q
theorem hdCellSR (N:Nat) (p q:List D) (x0 x1 x2 x3:D):hdCellSL N p q [x0,x1,x2,x3]=bif ltI x3.int (x0.rows.length:Int) then hrnd x3.int x0.rows hdCellSf x1 (fun k=>nx [x0,k,x2,.i (w64 (x3.int+1))]) else ex 0 [x0,x1,x2,x3]:=by kernel_rfl
theorem hdCellS_ev (N:Nat) (p q:List D):evFn Try.prog hdCellST N hdCellSK Try.f12 ri [⟨sd (.sl 53),p⟩,⟨ri,q⟩]=some (bo,(let o0:=iter (hdCellSL N p q) N [gd p 0,gd q 0,.i 0,.i 0]; nd o0.isSome (bif o0.code==1 then some (1,o0.pay) else nd (o0.code==2) (some (1,[gd o0.pay 1]))))):=by kernel_rfl
def hdCellSE:Ent:=(12,e2 (sd (.sl 53)) ri fun p q=>(⟨ri,[hdCellS (gd p 0) (gd q 0)]⟩,true))
theorem hdCellS_ok:EntOk Try.prog hdCellSE:=e2_ok fun p q _=>hd_sound (L:=hdCellSL) (fs:=hdCellSf) (ks:=hdCellSK) hdCellST_ok (enters Try.func12) Try.func12 (fun N x0 x1 x2 x3=>hdCellSR N p q x0 x1 x2 x3) (fun N=>hdCellS_ev N p q)
theorem heldCellS {x q:D} (h0:0≤q.int) (h1:q.int+ctCellS x≤4611686018427387904):hdCellS (gd (mkCellS [x] q) 1) q=gd (mkCellS [x] q) 0:=held_all (w:=2) (fs:=mkCellSf) (hs:=hdCellSf) (by
 unfold mkCellSf hdCellSf
 exact ⟨(rfl:0=0),(rfl:1=1),trivial⟩) (by decide) (by
 unfold mkCellSf
 exact ⟨(by decide:0<2),(by decide:1<2),trivial⟩) h0 h1
end Go.Proofs.Ytecefnhhlaolmaa
namespace Go.Proofs.Ytecefnhhlaolmaa
open Go.ChangeShapes Go.WideShapes Go.ChangeAt Go.RowKit Go.Deep
def prot0 (w:World) (b:Nat):Nat:=
 match w.heap[b]? with
 | some (.cells arr _ _)=>arr.size
 | _=>0
theorem prot0_cell {w:World} {b o:Nat} {u:Value} (h:w.cell? ⟨b,o,none⟩=some u):o<prot0 w b:=by
 unfold World.cell? at h
 simp only at h
 unfold prot0
 cases hb:w.heap[b]? with
 | none=>rw [hb] at h; cases h
 | some x =>
  rw [hb] at h
  cases x with
  | cells arr t f =>
   simp only at h ⊢
   exact (Array.getElem?_eq_some_iff.1 h).1
  | _=>simp at h
theorem prot0_fresh {w:World} {b:Nat} (h:w.heap.size≤b):prot0 w b=0:=by
 unfold prot0
 rw [Array.getElem?_eq_none h]
def coverB (P:Program) (row:List S) (fs:Array Field):Bool:=
 (List.range row.length).all fun j=>(List.range fs.size).any fun i=>match fs[i]? with
  | some f=>match rowOf P f.type with
   | some rf=>decide (f.offset≤j)&&decide (j<f.offset+rf.length)&&rf.length==P.cellsOf f.type&&rf[j - f.offset]?==row[j]?
   | none=>false
  | none=>false
def layB (P:Program):Nat→TypeId→Bool
 | 0,_=>false
 | n+1,T=>match P.underlying T,rowOf P T with
  | some (.int k),some row=>row == [.int k]
  | some .bool,some row=>row == [.bool]
  | some .string,some row=>row == [.str]
  | some (.slice e),some row=>row == [.sl e]&&(match rowOf P e with | some re=>P.cellsOf e==re.length && !re.isEmpty&&layB P n e | none=>false)
  | some (.struct fs),some row=>coverB P row fs&&P.cellsOf T==row.length&&fs.toList.all fun f=>layB P n f.type
  | _,_=>false
theorem choose_pay {Q:Nat→D→Prop} (n:Nat) (h:∀ i,i<n→∃ x,Q i x):∃ l:List D,l.length=n∧∀ i,i<n→Q i (gd l i):=by
 induction n with
 | zero=>exact ⟨[],rfl,fun i hi=>by omega⟩
 | succ n ih =>
  obtain ⟨l,hl,hq⟩:=ih (fun i hi=>h i (by omega))
  obtain ⟨x,hx⟩:=h n (by omega)
  refine ⟨l ++ [x],by simp [hl],fun i hi=>?_⟩
  by_cases hin:i<n
  ·have:gd (l ++ [x]) i=gd l i:=by
    simp only [gd,List.getD_eq_getElem?_getD]
    rw [List.getElem?_append_left (by omega)]
   rw [this]; exact hq i hin
  ·obtain rfl:i=n:=by omega
   have:gd (l ++ [x]) i=x:=by
    simp only [gd,List.getD_eq_getElem?_getD]
    rw [List.getElem?_append_right (by omega),hl]
    simp
   rw [this]; exact hx
theorem choose_rows {Q:Nat→List D→Prop} (n:Nat) (h:∀ i,i<n→∃ x,Q i x):∃ l:List (List D),l.length=n∧∀ i,i<n→Q i (l.getD i []):=by
 induction n with
 | zero=>exact ⟨[],rfl,fun i hi=>by omega⟩
 | succ n ih =>
  obtain ⟨l,hl,hq⟩:=ih (fun i hi=>h i (by omega))
  obtain ⟨x,hx⟩:=h n (by omega)
  refine ⟨l ++ [x],by simp [hl],fun i hi=>?_⟩
  by_cases hin:i<n
  ·rw [List.getD_eq_getElem?_getD,List.getElem?_append_left (by omega),← List.getD_eq_getElem?_getD]; exact hq i hin
  ·obtain rfl:i=n:=by omega
   rw [List.getD_eq_getElem?_getD,List.getElem?_append_right (by omega),hl]
   simpa using hx
theorem spot_none' {w:World} {a:Addr} {v:Value} (h:w.cell? a=some v):a=⟨a.block,a.off,none⟩:=by
 cases hs:a.spot with
 | none=>cases a; simp at hs; subst hs; rfl
 | some s =>
  unfold World.cell? at h
  rw [hs] at h
  simp at h
  split at h <;> simp at h
theorem add_mk' {b o i:Nat}:(⟨b,o,none⟩:Addr).add i=⟨b,o+i,none⟩:=by
 unfold Addr.add
 split
 ·rename_i h; rw [h]; rfl
 ·rfl
theorem trod_vd {H:Type} {enc:TypeId × Value→H} {P:Program} {W:World} {base:Nat} {spare:Nat→Bool} {held:Bool}:∀ (n:Nat) (T:TypeId) (row:List S),layB P n T=true→rowOf P T=some row →
  ∀ (fuel:Nat) (cs:List Value) (y:DataW H × List MemPlace),DataW.trod enc P W base spare held fuel T cs=some y →
  ∃ p:List D,cs.length=row.length∧∀ j s,row[j]?=some s→∃ u,cs[j]?=some u∧VD P W (prot0 W) s (gd p j) u
 | 0,T,row,hl,_,_,_,_,_=>by cases hl
 | n+1,T,row,hl,hrow,fuel,cs,y,h=>by
  rw [layB,hrow] at hl
  split at hl
  ·rename_i k row' hu hr'
   injection hr' with hr'; subst hr'
   have hl:row = [.int k]:=by simpa using hl
   subst hl
   obtain ⟨a,e,_,_⟩:=DataW.trod_int hu h
   subst e
   refine ⟨[.i a],rfl,fun j s hs=>?_⟩
   match j,hs with
   | 0,hs=>injection hs with hs; subst hs; exact ⟨_,rfl,.int k (.i a)⟩
  ·rename_i row' hu hr'
   injection hr' with hr'; subst hr'
   have hl:row = [.bool]:=by simpa using hl
   subst hl
   obtain ⟨a,e,_⟩:=DataW.trod_bool hu h
   subst e
   refine ⟨[.b a],rfl,fun j s hs=>?_⟩
   match j,hs with
   | 0,hs=>injection hs with hs; subst hs; exact ⟨_,rfl,.bool (.b a)⟩
  ·rename_i row' hu hr'
   injection hr' with hr'; subst hr'
   have hl:row = [.str]:=by simpa using hl
   subst hl
   obtain ⟨a,e,_⟩:=DataW.trod_string hu h
   subst e
   refine ⟨[.s (byteList a)],rfl,fun j s hs=>?_⟩
   match j,hs with
   | 0,hs =>
    injection hs with hs; subst hs
    have:=VD.str (P:=P) (w:=W) (prot:=prot0 W) (.s (byteList a))
    rw [str_s,bsv_byteList] at this
    exact ⟨_,rfl,this⟩
  ·rename_i e row' hu hr'
   injection hr' with hr'; subst hr'
   simp only [Bool.and_eq_true] at hl
   obtain ⟨hl0,hl⟩:=hl
   have hl0:row = [.sl e]:=by simpa using hl0
   subst hl0
   split at hl
   ·rename_i re hre
    simp only [Bool.and_eq_true,beq_iff_eq,Bool.not_eq_true'] at hl
    obtain ⟨⟨hc,hne⟩,hle⟩:=hl
    have hpos:0<re.length:=by cases re with | nil=>cases hne | cons=>simp
    rcases open_slice hu h with ⟨rfl,_⟩ | ⟨a,len,cap,m,nn,Dd,Pl,rfl,hb,hlc,hm,hmm,hx,hi⟩
    ·refine ⟨[.l []],rfl,fun j s hs=>?_⟩
     match j,hs with
     | 0,hs=>injection hs with hs; subst hs; exact ⟨_,rfl,.sl e (.l []) none 0 re (fun _ _=>undef) hre (Nat.zero_le _) (by omega) (fun i j hi=>absurd hi (Nat.not_lt_zero _)) (fun i j s hi=>absurd hi (Nat.not_lt_zero _))⟩
    ·have hlm:len≤m:=by rw [hmm]; split <;> omega
     have ha:0<len→a=⟨a.block,a.off,none⟩:=by
      intro h0
      obtain ⟨cs0,hc0,_⟩:=hi 0 (by omega)
      rw [hc] at hc0
      obtain ⟨_,hcl0,hat0⟩:=World.cells?_some hc0
      have h00:=hat0 0 hpos
      rw [List.getElem?_eq_getElem (by omega)] at h00
      have:=spot_none' h00
      rw [Nat.zero_mul] at this
      simpa [Addr.add] using this
     have hq:∀ i,i<len→∃ p:List D,∀ j s,re[j]?=some s→∃ u,W.cell? ⟨a.block,a.off+(i*re.length+j),none⟩=some u∧VD P W (prot0 W) s (gd p j) u:=by
      intro i hil
      obtain ⟨cs',hcs,htr⟩:=hi i (by omega)
      rw [hc] at hcs
      obtain ⟨_,hcl,hat⟩:=World.cells?_some hcs
      obtain ⟨p,_,hp⟩:=trod_vd n e re hle hre nn cs' _ htr
      refine ⟨p,fun j s hs=>?_⟩
      obtain ⟨u,hu,hv⟩:=hp j s hs
      have hj:=(List.getElem?_eq_some_iff.1 hs).1
      have:=hat j hj
      rw [hu,ha (by omega),add_mk',add_mk'] at this
      refine ⟨u,?_,hv⟩
      rw [← this]; congr 2; omega
     obtain ⟨l,hll,hlq⟩:=choose_rows len hq
     refine ⟨[.l l],rfl,fun j s hs=>?_⟩
     match j,hs with
     | 0,hs =>
      injection hs with hs; subst hs
      refine ⟨_,rfl,?_⟩
      have hsl:=VD.sl (P:=P) (w:=W) (prot:=prot0 W) e (.l l) (some a) cap re (fun i j=>(W.cell? ⟨a.block,a.off+(i*re.length+j),none⟩).getD undef) hre (by rw [rows_l]; omega) (by unfold maxLen at hm; omega) ?_ ?_
      ·rw [rows_l,hll] at hsl; exact hsl
      ·intro i j hi hj
       rw [rows_l,hll] at hi
       obtain ⟨u,hu,_⟩:=hlq i hi j re[j] (List.getElem?_eq_getElem hj)
       refine ⟨a.block,a.off,by rw [← ha (by omega)],?_,prot0_cell hu⟩
       rw [hu]; rfl
      ·intro i j s hi hs
       rw [rows_l,hll] at hi
       obtain ⟨u,hu,hv⟩:=hlq i hi j s hs
       show VD P W (prot0 W) s (gd (l.getD i []) j) ((W.cell? ⟨a.block,a.off+(i*re.length+j),none⟩).getD undef)
       rw [hu]; exact hv
   ·cases hl
  ·rename_i fs row' hu hr'
   injection hr' with hr'; subst hr'
   simp only [Bool.and_eq_true,beq_iff_eq] at hl
   obtain ⟨⟨hcov,hct⟩,hall⟩:=hl
   obtain ⟨xs,nn,_,_,hlen,hlx,hg⟩:=DataW.trod_struct hu h
   rw [hct] at hlen
   have hq:∀ j,j<row.length→∃ d:D,∀ s,row[j]?=some s→∃ u,cs[j]?=some u∧VD P W (prot0 W) s d u:=by
    intro j hj
    unfold coverB at hcov
    rw [List.all_eq_true] at hcov
    have hcj:=hcov j (List.mem_range.2 hj)
    rw [List.any_eq_true] at hcj
    obtain ⟨i,hi,hci⟩:=hcj
    have hi:=List.mem_range.1 hi
    split at hci
    ·rename_i f hf
     split at hci
     ·rename_i rf hrf
      simp only [Bool.and_eq_true,decide_eq_true_eq,beq_iff_eq] at hci
      obtain ⟨⟨⟨k1,k2⟩,k3⟩,k4⟩:=hci
      have hlf:layB P n f.type=true:=by
       rw [List.all_eq_true] at hall
       exact hall f (by
        have:=Array.getElem?_eq_some_iff.1 hf
        obtain ⟨h1,h2⟩:=this
        rw [← h2]; simp)
      have htr:=hg i f hf
      rw [List.getElem?_eq_getElem (by rw [hlx]; exact hi)] at htr
      obtain ⟨p,hpl,hp⟩:=trod_vd n f.type rf hlf hrf nn _ _ htr
      refine ⟨gd p (j - f.offset),fun s hs=>?_⟩
      rw [hs] at k4
      obtain ⟨u,hu',hv⟩:=hp _ _ k4
      refine ⟨u,?_,hv⟩
      rw [List.getElem?_take_of_lt (by omega),List.getElem?_drop] at hu'
      rw [← hu']; congr 1; omega
     ·cases hci
    ·cases hci
   obtain ⟨p,_,hp⟩:=choose_pay row.length hq
   exact ⟨p,hlen,fun j s hs=>hp j (List.getElem?_eq_some_iff.1 hs).1 s hs⟩
  ·cases hl
theorem arg_agg {H:Type} {enc:TypeId × Value→H} {P:Program} {W:World} {base:Nat} {spare:Nat→Bool} {held:Bool} {r:Reach} {b0:Nat} {T:TypeId} {fs:Array Field} {row:List S} {v:Value} {d:DataW H} {ps:List MemPlace}
  (hs:P.underlying T=some (.struct fs)) (hrow:rowOf P T=some row) (hl:layB P 12 T=true) (hv:Value.okWide P W r b0 T v) (hy:DataW.Trod enc P W base spare held T v d ps) :
  ∃ p,VT P W (g0 W.heap.size (prot0 W)) W.heap.size ⟨.one (.agg (row.map .d)),p⟩ v:=by
 obtain ⟨cs,rfl,hsz⟩:=okWide_struct hs hv
 obtain ⟨fuel,hf⟩:=hy
 obtain ⟨p,hpl,hp⟩:=trod_vd 12 T row hl hrow fuel _ _ hf
 refine ⟨p,cs,rfl,?_,fun j c hc=>?_⟩
 ·have:cs.toList.length=row.length:=hpl
  simpa using this
 ·rw [List.getElem?_map] at hc
  cases hr:row[j]? with
  | none=>rw [hr] at hc; cases hc
  | some s =>
   rw [hr] at hc
   injection hc with hc
   subst hc
   obtain ⟨u,hu,hvd⟩:=hp j s hr
   have hu:cs.toList[j]?=some u:=hu
   exact ⟨u,by simpa using hu,hvd⟩
theorem arg_one {H:Type} {enc:TypeId × Value→H} {P:Program} {W:World} {base:Nat} {spare:Nat→Bool} {held:Bool} {T:TypeId} {s:S} {v:Value} {d:DataW H} {ps:List MemPlace}
  (hrow:rowOf P T=some [s]) (hl:layB P 12 T=true) (hv:v.cells.toList = [v]) (hy:DataW.Trod enc P W base spare held T v d ps) :
  ∃ p,VT P W (g0 W.heap.size (prot0 W)) W.heap.size ⟨.one (.c (.d s)),p⟩ v:=by
 obtain ⟨fuel,hf⟩:=hy
 rw [hv] at hf
 obtain ⟨p,_,hp⟩:=trod_vd 12 T [s] hl hrow fuel _ _ hf
 obtain ⟨u,hu,hvd⟩:=hp 0 s rfl
 injection hu with hu
 subst hu
 exact ⟨p,hvd⟩
theorem args_2 {P:Program} {W:World} {t t1:T} {v v1:Value} (h:VT P W (g0 W.heap.size (prot0 W)) W.heap.size t v) (h1:VT P W (g0 W.heap.size (prot0 W)) W.heap.size t1 v1):ArgsV P (prot0 W) W [t,t1] #[v,v1]:=⟨rfl,fun j t' hj=>by
 match j,hj with
 | 0,hj=>injection hj with hj; subst hj; exact ⟨v,rfl,h⟩
 | 1,hj=>injection hj with hj; subst hj; exact ⟨v1,rfl,h1⟩⟩
theorem ev_walk {P:Program} {f:FuncId} {args:List T} {b:Bool} (h:SoundFn P f args ⟨rb,[.b b]⟩) {W:World} {vs:Array Value} (ha:ArgsV P (prot0 W) W args vs) :
  Calls P f vs W fun e W'=>e=.returned (.bool b)∧Below W.heap.size W W':=by
 refine ((h.n rfl).2 W (prot0 W) vs ha (fun b hb=>prot0_fresh hb)).mono fun e W' hx=>?_
 obtain ⟨v,g',rfl,hres⟩:=hx
 have hv:VD P W' g'.prot .bool (.b b) v:=hres.val
 cases hv
 exact ⟨rfl,hres.below⟩
end Go.Proofs.Ytecefnhhlaolmaa
namespace Go.Proofs.Ytecefnhhlaolmaa
set_option maxRecDepth 4096
set_option maxHeartbeats 1000000
abbrev l_JudgeBeforeT:FuncId→List T→Option (T × Bool):=find [szCoordE,toCoorddE,s_JudgeBeforeE,i_JudgeBeforeOE,eqCellSE,eqCoordE,mkCoordE,mkCellSE,hdCellSE,apartE]
theorem l_JudgeBeforeT_ok:CallOk Try.prog l_JudgeBeforeT:=find_ok (fC ⟨szCoord_ok,fC ⟨toCoordd_ok,fC ⟨s_JudgeBefore_ok,fC ⟨i_JudgeBeforeO_ok,fC ⟨eqCellS_ok,fC ⟨eqCoord_ok,fC ⟨mkCoord_ok,fC ⟨mkCellS_ok,fC ⟨hdCellS_ok,fC ⟨apart_ok,fN⟩⟩⟩⟩⟩⟩⟩⟩⟩⟩)
abbrev l_JudgeBeforeK:List Nat:= [0,1,2,4,5,6,7,8,9,10,11,12,17,30,35,46,54,57,65,70,73]
theorem l_JudgeBefore_ev (N:Nat) (p q:List D):evFn Try.prog l_JudgeBeforeT N l_JudgeBeforeK Try.f3 rb [⟨ag rLCoord,p⟩,⟨ri,q⟩]=some (bo,
 nd (fair 1048576) (bif ltI (left (sizeCoord (sub p 0 2)) 1048576) 0 then ob true
 else nd (okCoord (sub p 0 2)) (nd (okCoord (sub p 0 2)) (bif !(eqCellS (bif coordOk (sub (cpCoord (sub p 0 2)) 0 2) then befD (sub (cpCoord (sub p 0 2)) 0 2) (gd q 0).int else .l []) (bif coordOk (sub (cpCoord (sub p 0 2)) 0 2) then befD (sub (cpCoord (sub p 0 2)) 0 2) (gd q 0).int else .l [])) then ob false
 else nd (okCoord (sub p 0 2)) (bif !(eqCoord (sub (cpCoord (sub p 0 2)) 0 2) (sub (cpCoord (sub p 0 2)) 0 2)) then ob false
 else bif ltI (gd (mkCoord (sub (cpCoord (sub p 0 2)) 0 2) (.i 1)) 0).int 0 then ob false
 else bif !(eqCellS (bif coordOk (sub (cpCoord (sub p 0 2)) 0 2) then befD (sub (cpCoord (sub p 0 2)) 0 2) (gd q 0).int else .l []) (bif coordOk (sub (cpCoord (sub p 0 2)) 0 2) then befD (sub (cpCoord (sub p 0 2)) 0 2) (gd q 0).int else .l [])) then ob false
 else bif ltI (hdCellS (.l (gd (mkCellS [(bif coordOk (sub (cpCoord (sub p 0 2)) 0 2) then befD (sub (cpCoord (sub p 0 2)) 0 2) (gd q 0).int else .l [])] (.i 1)) 1).rows) (.i 1)).int 0 then ob false
 else bif (hdCellS (.l (gd (mkCellS [(bif coordOk (sub (cpCoord (sub p 0 2)) 0 2) then befD (sub (cpCoord (sub p 0 2)) 0 2) (gd q 0).int else .l [])] (.i 1)) 1).rows) (.i 1)).int != (gd (mkCellS [(bif coordOk (sub (cpCoord (sub p 0 2)) 0 2) then befD (sub (cpCoord (sub p 0 2)) 0 2) (gd q 0).int else .l [])] (.i 1)) 0).int then ob false
 else nd (okCoord (sub p 0 2)) (bif !(eqCellS (bif coordOk (sub (cpCoord (sub p 0 2)) 0 2) then befD (sub (cpCoord (sub p 0 2)) 0 2) (gd q 0).int else .l []) (bif coordOk (sub (cpCoord (sub p 0 2)) 0 2) then befD (sub (cpCoord (sub p 0 2)) 0 2) (gd q 0).int else .l [])) then ob false
 else bif ltI (hdCellS (.l (gd (mkCellS [(bif coordOk (sub (cpCoord (sub p 0 2)) 0 2) then befD (sub (cpCoord (sub p 0 2)) 0 2) (gd q 0).int else .l [])] (.i 1)) 1).rows) (.i 1)).int 0 then ob false
 else bif (hdCellS (.l (gd (mkCellS [(bif coordOk (sub (cpCoord (sub p 0 2)) 0 2) then befD (sub (cpCoord (sub p 0 2)) 0 2) (gd q 0).int else .l [])] (.i 1)) 1).rows) (.i 1)).int != (gd (mkCellS [(bif coordOk (sub (cpCoord (sub p 0 2)) 0 2) then befD (sub (cpCoord (sub p 0 2)) 0 2) (gd q 0).int else .l [])] (.i 1)) 0).int then ob false
 else ob true)))))):=by kernel_rfl
theorem befD_len (p:List D) (t:Int):(bif coordOk p then befD p t else .l []).rows.length≤1000:=by
 cases h:coordOk p with
 | false=>simp [D.rows]
 | true =>
  have hb:cellsUp (befD p t)=true:=befN_up (befW h) _ (by have:=stop_le (fun k=>vAt (gd p 1) k==t) (gd p 1).rows.length 0; omega)
  unfold cellsUp at hb
  simp only [Bool.and_eq_true,leI,decide_eq_true_eq] at hb
  have:=hb.1
  show (befD p t).rows.length≤1000
  omega
theorem ctCellS_len (x:D):ctCellS x=2*x.rows.length:=by
 unfold ctCellS
 generalize x.rows=l
 induction l with
 | nil=>rfl
 | cons r l ih =>
  have e:total (cFs mkCellSf) (r::l)=2+total (cFs mkCellSf) l:=by simp [total,mkCellSf,cFs,cF]
  rw [e,ih,List.length_cons]; omega
def l_JudgeBeforeE:Ent:=(3,e2 (ag rLCoord) ri fun p q=>(⟨rb,[.b true]⟩,true))
theorem l_JudgeBefore_ok:EntOk Try.prog l_JudgeBeforeE:=e2_ok fun p q h=>evFn_sound (N:=0) (ks:=l_JudgeBeforeK) (key:=bo) l_JudgeBeforeT_ok (enters Try.func3) Try.func3 fun hw=>by
 rw [l_JudgeBefore_ev]
 simp only [show okCoord (sub p 0 2)=okCoord p from rfl,show sizeCoord (sub p 0 2)=sizeCoord p from rfl,show eqCoord (sub (cpCoord (sub p 0 2)) 0 2) (sub (cpCoord (sub p 0 2)) 0 2)=true from eqCoord_refl _,eqCellS_refl]
 rw [show fair 1048576=true from rfl]
 cases h0:ltI (left (sizeCoord p) 1048576) 0
 ·obtain ⟨e0,l0⟩:=left_ge h0 (by omega)
  have l0:sizeCoord p≤1048576:=by omega
  rw [okCoord_of (m:=1048576) (by omega) (show sizeCoord p≤1048576 from l0)]
  have hb:=bdCoord p
  have hk:=mkCoord_k (p:=sub (cpCoord (sub p 0 2)) 0 2) (q:=.i 1) (by decide) (by
   show (1:Int)+(ctCoord (cpCoord p):Nat)≤_
   omega)
  have hk0:ltI (gd (mkCoord (sub (cpCoord (sub p 0 2)) 0 2) (.i 1)) 0).int 0=false:=ltI_f (by rw [hk]; show 0≤(1:Int)+_; omega)
  generalize hx:(bif coordOk (sub (cpCoord (sub p 0 2)) 0 2) then befD (sub (cpCoord (sub p 0 2)) 0 2) (gd q 0).int else .l [])=x
  have hxl:x.rows.length≤1000:=by rw [← hx]; exact befD_len _ _
  have hc:(D.i 1).int+ctCellS x≤4611686018427387904:=by rw [ctCellS_len]; show (1:Int)+_≤_; push_cast; omega
  have hh:hdCellS (.l (gd (mkCellS [x] (.i 1)) 1).rows) (.i 1)=gd (mkCellS [x] (.i 1)) 0:=heldCellS (by decide) hc
  have hm:=mkCellS_k (x:=x) (q:=.i 1) (by decide) hc
  rw [hh,hk0,show ltI (gd (mkCellS [x] (.i 1)) 0).int 0=false from ltI_f (by rw [hm]; show 0≤(1:Int)+_; omega)]
  simp only [nd,cond_true,cond_false,beq_self_eq_true,bne_self_eq_false,Bool.not_true]
 ·rfl
end Go.Proofs.Ytecefnhhlaolmaa
