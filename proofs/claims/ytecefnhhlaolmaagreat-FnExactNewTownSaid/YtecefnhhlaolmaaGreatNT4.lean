/-
 Texts of the proof,put together: part 4.
-/
import Derived.Test.YtecefnhhlaolmaaGreatNT1
import Derived.Test.YtecefnhhlaolmaaGreatNT2
import Derived.Test.YtecefnhhlaolmaaGreatNT3
set_option linter.unusedSimpArgs false
set_option linter.unusedVariables false
set_option linter.unusedSectionVars false
namespace Go.Proofs.YtecefnhhlaolmaaGreat
set_option maxRecDepth 4096
abbrev i_CoordOkT:FuncId→List T→Option (T × Bool):=find [i_recOkE,cofKE,i_fromE,coIE]
theorem i_CoordOkT_ok:CallOk Tryz.prog i_CoordOkT:=find_ok (fC ⟨i_recOk_ok,fC ⟨cofK_ok,fC ⟨i_from_ok,fC ⟨coI_ok,fN⟩⟩⟩⟩)
abbrev i_CoordOkK:List Nat:= [0,1,2,3,4,5,6,7,11,13,14,15,16,37,40,45,46,47,48,75]
noncomputable def i_CoordOkL0 (N:Nat) (p:List D):List D→Out:=loopOf Tryz.prog i_CoordOkT N i_CoordOkK Tryz.f59 rb [⟨ag rICoord,p⟩] 0
noncomputable def i_CoordOkL2 (N:Nat) (p:List D):List D→Out:=loopOf Tryz.prog i_CoordOkT N i_CoordOkK Tryz.f59 rb [⟨ag rICoord,p⟩] 2
theorem i_CoordOkR0 (N:Nat) (p:List D) (x0 x1 x2 x3 x4 x5 x6 x7 x8 x9 x10:D):(i_CoordOkL0 N p) [x0,x1,x2,x3,x4,x5,x6,x7,x8,x9,x10] =
 bif ltI x8.int x7.int then nd (inRange x8.int x6.rows.length) (bif (gd (x6.rows.getD x8.int.toNat []) 0).int != (w64 (x8.int+1)) then ob false
 else bif !(recOk (sub (x6.rows.getD x8.int.toNat []) 0 5)) then ob false
 else nd (leI 0 0&&leI 0 x8.int&&leI x8.int (x9.rows.length:Int)) (bif anyS (fun r=>ixfKC (.l [[.l [sub (x6.rows.getD x8.int.toNat []) 0 5]]]) (sub r 0 5)) (.l (x9.rows.take x8.int.toNat)) then ob false
 else bif (gd (x6.rows.getD x8.int.toNat []) 3).int==3 then nx [x0,x1,x2,x3,x4,.i (w64 (x5.int+1)),x6,x7,.i (w64 (x8.int+1)),x9,x10]
 else nx [x0,x1,x2,x3,x4,x5,x6,x7,.i (w64 (x8.int+1)),x9,x10]))
 else ex 0 [x0,x1,x2,x3,x4,x5,x6,x7,x8,x9,x10]:=by kernel_rfl
theorem i_CoordOkR2 (N:Nat) (p:List D) (x0 x1 x2 x3 x4 x5 x6 x7 x8 x9 x10 x11 x12 x13:D):(i_CoordOkL2 N p) [x0,x1,x2,x3,x4,x5,x6,x7,x8,x9,x10,x11,x12,x13] =
 bif ltI x11.int x10.int then nd (inRange x11.int x9.rows.length) (bif !(inB (gd (x9.rows.getD x11.int.toNat []) 0).int 1 (x12.rows.length:Int)) then ob false
 else nd (inRange (w64 ((gd (x9.rows.getD x11.int.toNat []) 0).int - 1)) x12.rows.length) (bif (gd (x12.rows.getD (w64 ((gd (x9.rows.getD x11.int.toNat []) 0).int - 1)).toNat []) 3).int != 3 then ob false
 else nd (leI 0 0&&leI 0 x11.int&&leI x11.int (x13.rows.length:Int)) (bif hasInt (.l (x13.rows.take x11.int.toNat)) (gd (x9.rows.getD x11.int.toNat []) 0).int then ob false
 else nx [x0,x1,x2,x3,x4,x5,x6,x7,x8,x9,x10,.i (w64 (x11.int+1)),x12,x13])))
 else ex 2 [x0,x1,x2,x3,x4,x5,x6,x7,x8,x9,x10,x11,x12,x13]:=by kernel_rfl
theorem i_CoordOk_ev (N:Nat) (p:List D):evFn Tryz.prog i_CoordOkT N i_CoordOkK Tryz.f59 rb [⟨ag rICoord,p⟩]=some (bo,
 bif ltI 60 ((gd p 0).rows.length:Int) then ob false
 else (let o0:=iter (i_CoordOkL0 N p) N [gd p 0,gd p 1,.i 0,.i 0,.b (ltI 60 ((gd p 0).rows.length:Int)),.i 0,gd p 0,.i ((gd p 0).rows.length:Int),.i 0,gd p 0,gd p 1]
  nd o0.isSome (bif o0.code==1 then some (1,o0.pay)
  else nd (o0.code==2) ((let o2:=iter (i_CoordOkL2 N p) N [gd o0.pay 0,gd o0.pay 1,gd o0.pay 2,gd o0.pay 3,gd o0.pay 4,gd o0.pay 5,gd o0.pay 6,gd o0.pay 7,gd o0.pay 8,gd o0.pay 10,.i ((gd o0.pay 10).rows.length:Int),.i 0,gd o0.pay 9,gd o0.pay 10]
  nd o2.isSome (bif o2.code==1 then some (1,o2.pay)
  else nd (o2.code==4) (ob ((gd o2.pay 5).int==((gd o2.pay 13).rows.length:Int))))))))):=by kernel_rfl
def recSame (a b:List D):Bool:=((gd a 1).int==(gd b 1).int)&&((gd a 2).int==(gd b 2).int)
def recAt (z:D) (k:Nat):Bool:=((gd (z.rows.getD k []) 0).int==((k+1:Nat):Int))&&(recOk (sub (z.rows.getD k []) 0 5) && !(List.range k).any fun j=>recSame (z.rows.getD j []) (z.rows.getD k []))
def isYes (z:D) (k:Nat):Bool:=(gd (z.rows.getD k []) 3).int==3
def ordAt (z o:D) (k:Nat):Bool:=inB (gd (o.rows.getD k []) 0).int 1 (z.rows.length:Int)&&(((gd (z.rows.getD ((gd (o.rows.getD k []) 0).int - 1).toNat []) 3).int==3) && !hasInt (.l (o.rows.take k)) (gd (o.rows.getD k []) 0).int)
def coordOk (p:List D):Bool:=decide ((gd p 0).rows.length≤60)&&((List.range (gd p 0).rows.length).all (recAt (gd p 0))&&((List.range (gd p 1).rows.length).all (ordAt (gd p 0) (gd p 1))&&((cnt (isYes (gd p 0)) 0 (gd p 0).rows.length:Nat):Int)==((gd p 1).rows.length:Int)))
def i_CoordOkE:Ent:=(59,e1 (ag rICoord) fun p=>(⟨rb,[.b (coordOk p)]⟩,true))
theorem i_CoordOk_ok:EntOk Tryz.prog i_CoordOkE:=e1_ok fun p h=>evFn_sound (N:=(gd p 0).rows.length+(gd p 1).rows.length+1) (ks:=i_CoordOkK) (key:=bo) i_CoordOkT_ok (enters Tryz.func59) Tryz.func59 fun hw=>by
 rw [i_CoordOk_ev]
 have hl1:=wt_at (hw ⟨ag rICoord,p⟩ (by simp)) (j:=1) rfl
 by_cases h60:(gd p 0).rows.length≤60
 ·rw [ltI_f (show ((gd p 0).rows.length:Int)≤60 from by omega)]
  have e0:=for_loop (L:=i_CoordOkL0 ((gd p 0).rows.length+(gd p 1).rows.length+1) p) (fun k => [gd p 0,gd p 1,.i 0,.i 0,.b false,.i (cnt (isYes (gd p 0)) 0 k:Nat),gd p 0,.i ((gd p 0).rows.length:Int),.i (k:Int),gd p 0,gd p 1]) (gd p 0).rows.length (recAt (gd p 0)) [.b false] 0 (fun k hk=>?_) ?_ (N:=(gd p 0).rows.length+(gd p 1).rows.length+1) (by omega)
  ·simp only [cnt_zero,Int.natCast_zero] at e0
   rw [cond_false,e0]
   simp only [coordOk,h60,decide_true,Bool.true_and]
   cases h1:(List.range (gd p 0).rows.length).all (recAt (gd p 0))
   ·rfl
   ·have e2:=for_loop (L:=i_CoordOkL2 ((gd p 0).rows.length+(gd p 1).rows.length+1) p) (fun k => [gd p 0,gd p 1,.i 0,.i 0,.b false,.i (cnt (isYes (gd p 0)) 0 (gd p 0).rows.length:Nat),gd p 0,.i ((gd p 0).rows.length:Int),.i ((gd p 0).rows.length:Int),gd p 1,.i ((gd p 1).rows.length:Int),.i (k:Int),gd p 0,gd p 1]) (gd p 1).rows.length (ordAt (gd p 0) (gd p 1)) [.b false] 2 (fun k hk=>?_) ?_ (N:=(gd p 0).rows.length+(gd p 1).rows.length+1) (by omega)
    ·simp only [Int.natCast_zero] at e2
     simp only [nd,cond_true,cond_false,Option.isSome_some,Out.code,Out.pay,Option.getD_some,gd_cons_zero,gd_cons_succ,Nat.reduceBEq,Nat.reduceAdd,int_i,bool_b,str_s,rows_l,Bool.not_true,Bool.not_false,beq_self_eq_true]
     rw [e2]
     cases h2:(List.range (gd p 1).rows.length).all (ordAt (gd p 0) (gd p 1)) <;> rfl
    ·show i_CoordOkL2 _ p [_,_,_,_,_,_,_,_,_,_,_,.i (k:Int),_,_]=_
     rw [i_CoordOkR2]
     simp only [int_i,c_lt hk,nd_ix hk,w64_succ hk hl1,Int.toNat_natCast,nd_take (Nat.le_of_lt hk),bne_not,ordAt]
     cases hb:inB (gd ((gd p 1).rows.getD k []) 0).int 1 ((gd p 0).rows.length:Int)
     ·rfl
     ·have hb':=hb
      simp only [inB,Bool.and_eq_true,decide_eq_true_eq] at hb'
      obtain ⟨m,hm⟩:∃ m:Nat,(gd ((gd p 1).rows.getD k []) 0).int=((m+1:Nat):Int):=⟨((gd ((gd p 1).rows.getD k []) 0).int - 1).toNat,by omega⟩
      rw [hm] at hb' ⊢
      rw [show w64 (((m+1:Nat):Int) - 1)=(m:Int) from by rw [w64_id (by omega) (by omega)]; omega,show ((m+1:Nat):Int) - 1=(m:Int) from by omega,nd_ix (show m<(gd p 0).rows.length from by omega),Int.toNat_natCast]
      cases (gd ((gd p 0).rows.getD m []) 3).int==3 <;> cases hasInt (.l ((gd p 1).rows.take k)) ((m+1:Nat):Int) <;> rfl
    ·show i_CoordOkL2 _ p [_,_,_,_,_,_,_,_,_,_,_,.i ((gd p 1).rows.length:Int),_,_]=_
     rw [i_CoordOkR2]
     simp only [int_i,c_nlt]
  ·show i_CoordOkL0 _ p [_,_,_,_,_,_,_,_,.i (k:Int),_,_]=_
   rw [i_CoordOkR0]
   simp only [int_i,c_lt hk,nd_ix hk,w64_succ hk (show (gd p 0).rows.length≤9223372036854775807 from by omega),Int.toNat_natCast,nd_take (Nat.le_of_lt hk),bne_not,recAt,anyS_take (Nat.le_of_lt hk),cnt_succ,Nat.zero_add]
   have hc:=cnt_le (isYes (gd p 0)) k 0
   rw [w64_id (x:=(cnt (isYes (gd p 0)) 0 k:Int)+1) (by omega) (by omega)]
   rw [show ((List.range k).any fun j=>ixfKC (.l [[.l [sub ((gd p 0).rows.getD k []) 0 5]]]) (sub ((gd p 0).rows.getD j []) 0 5))=(List.range k).any fun j=>recSame ((gd p 0).rows.getD j []) ((gd p 0).rows.getD k []) from rfl]
   cases (gd ((gd p 0).rows.getD k []) 0).int==((k+1:Nat):Int)
   ·rfl
   cases recOk (sub ((gd p 0).rows.getD k []) 0 5)
   ·rfl
   cases (List.range k).any fun j=>recSame ((gd p 0).rows.getD j []) ((gd p 0).rows.getD k [])
   ·rw [show ((gd ((gd p 0).rows.getD k []) 3).int==3)=isYes (gd p 0) k from rfl]
    cases isYes (gd p 0) k <;> rfl
   ·rfl
  ·show i_CoordOkL0 _ p [_,_,_,_,_,_,_,.i ((gd p 0).rows.length:Int),.i ((gd p 0).rows.length:Int),_,_]=_
   rw [i_CoordOkR0]
   simp only [int_i,c_nlt]
 ·rw [ltI_t (show (60:Int)<((gd p 0).rows.length:Int) from by omega)]
  simp only [coordOk,h60,decide_false,Bool.false_and]
  rfl
abbrev s_CoordOkT:FuncId→List T→Option (T × Bool):=find [s_l14RecOkE,s_l1InE,s_l12HasE]
theorem s_CoordOkT_ok:CallOk Tryz.prog s_CoordOkT:=find_ok (fC ⟨s_l14RecOk_ok,fC ⟨s_l1In_ok,fC ⟨s_l12Has_ok,fN⟩⟩⟩)
abbrev s_CoordOkK:List Nat:= [0,1,2,3,4,5,6,7,8,18,23,40,43,65,68,75,106]
noncomputable def s_CoordOkL0 (N:Nat) (p:List D):List D→Out:=loopOf Tryz.prog s_CoordOkT N s_CoordOkK Tryz.f46 rb [⟨ag rICoord,p⟩] 0
noncomputable def s_CoordOkL2 (N:Nat) (p:List D):List D→Out:=loopOf Tryz.prog s_CoordOkT N s_CoordOkK Tryz.f46 rb [⟨ag rICoord,p⟩] 2
noncomputable def s_CoordOkL4 (N:Nat) (p:List D):List D→Out:=loopOf Tryz.prog s_CoordOkT N s_CoordOkK Tryz.f46 rb [⟨ag rICoord,p⟩] 4
theorem s_CoordOkR0 (N:Nat) (p:List D) (x0 x1 x2 x3 x4 x5 x6 x7 x8:D):(s_CoordOkL0 N p) [x0,x1,x2,x3,x4,x5,x6,x7,x8] =
 bif ltI x6.int (x7.rows.length:Int) then nd (inRange x6.int x7.rows.length) (bif (gd (x7.rows.getD x6.int.toNat []) 0).int != (w64 (x6.int+1)) then ob false
 else bif !(recOk (sub (x7.rows.getD x6.int.toNat []) 0 5)) then ob false
 else (let o2:=iter (s_CoordOkL2 N p) N [x0,x1,x2,x3,x4,x5,x6,.b (ltI x6.int (x7.rows.length:Int)),.i 0,.b (!(recOk (sub (x7.rows.getD x6.int.toNat []) 0 5))),.i 0,x7,x8,gd (x7.rows.getD x6.int.toNat []) 0,gd (x7.rows.getD x6.int.toNat []) 1,gd (x7.rows.getD x6.int.toNat []) 2,gd (x7.rows.getD x6.int.toNat []) 3,gd (x7.rows.getD x6.int.toNat []) 4]
  nd o2.isSome (bif o2.code==1 then some (1,o2.pay)
  else nd (o2.code==4) (bif (gd o2.pay 16).int==3 then nx [gd o2.pay 0,gd o2.pay 1,gd o2.pay 2,gd o2.pay 3,gd o2.pay 4,.i (w64 ((gd o2.pay 5).int+1)),.i (w64 ((gd o2.pay 6).int+1)),gd o2.pay 11,gd o2.pay 12]
  else nx [gd o2.pay 0,gd o2.pay 1,gd o2.pay 2,gd o2.pay 3,gd o2.pay 4,gd o2.pay 5,.i (w64 ((gd o2.pay 6).int+1)),gd o2.pay 11,gd o2.pay 12]))))
 else ex 0 [x0,x1,x2,x3,x4,x5,x6,x7,x8]:=by kernel_rfl
theorem s_CoordOkR2 (N:Nat) (p:List D) (x0 x1 x2 x3 x4 x5 x6 x7 x8 x9 x10 x11 x12 x13 x14 x15 x16 x17:D):(s_CoordOkL2 N p) [x0,x1,x2,x3,x4,x5,x6,x7,x8,x9,x10,x11,x12,x13,x14,x15,x16,x17] =
 bif ltI x10.int x6.int then nd (inRange x10.int x11.rows.length) (bif (gd (x11.rows.getD x10.int.toNat []) 1).int==x14.int then nd (inRange x10.int x11.rows.length) (bif (gd (x11.rows.getD x10.int.toNat []) 2).int==x15.int then ob false
 else nx [x0,x1,x2,x3,x4,x5,x6,x7,x8,x9,.i (w64 (x10.int+1)),x11,x12,x13,x14,x15,x16,x17])
 else nx [x0,x1,x2,x3,x4,x5,x6,x7,x8,x9,.i (w64 (x10.int+1)),x11,x12,x13,x14,x15,x16,x17])
 else ex 2 [x0,x1,x2,x3,x4,x5,x6,x7,x8,x9,x10,x11,x12,x13,x14,x15,x16,x17]:=by kernel_rfl
theorem s_CoordOkR4 (N:Nat) (p:List D) (x0 x1 x2 x3 x4 x5 x6 x7 x8 x9:D):(s_CoordOkL4 N p) [x0,x1,x2,x3,x4,x5,x6,x7,x8,x9] =
 bif ltI x7.int (x9.rows.length:Int) then nd (inRange x7.int x9.rows.length) (bif !(inB (gd (x9.rows.getD x7.int.toNat []) 0).int 1 (x8.rows.length:Int)) then ob false
 else nd (inRange (w64 ((gd (x9.rows.getD x7.int.toNat []) 0).int - 1)) x8.rows.length) (bif (gd (x8.rows.getD (w64 ((gd (x9.rows.getD x7.int.toNat []) 0).int - 1)).toNat []) 3).int != 3 then ob false
 else nd (leI 0 0&&leI 0 x7.int&&leI x7.int (x9.rows.length:Int)) (bif hasInt (.l (x9.rows.take x7.int.toNat)) (gd (x9.rows.getD x7.int.toNat []) 0).int then ob false
 else nx [x0,x1,x2,x3,x4,x5,x6,.i (w64 (x7.int+1)),x8,x9])))
 else ex 4 [x0,x1,x2,x3,x4,x5,x6,x7,x8,x9]:=by kernel_rfl
theorem s_CoordOk_ev (N:Nat) (p:List D):evFn Tryz.prog s_CoordOkT N s_CoordOkK Tryz.f46 rb [⟨ag rICoord,p⟩]=some (bo,
 bif ltI 60 ((gd p 0).rows.length:Int) then ob false
 else bif ltI 60 ((gd p 1).rows.length:Int) then ob false
 else (let o0:=iter (s_CoordOkL0 N p) N [gd p 0,gd p 1,.i 0,.i 0,.b (ltI 60 ((gd p 1).rows.length:Int)),.i 0,.i 0,gd p 0,gd p 1]
  nd o0.isSome (bif o0.code==1 then some (1,o0.pay)
  else nd (o0.code==2) ((let o4:=iter (s_CoordOkL4 N p) N [gd o0.pay 0,gd o0.pay 1,gd o0.pay 2,gd o0.pay 3,gd o0.pay 4,gd o0.pay 5,gd o0.pay 6,.i 0,gd o0.pay 7,gd o0.pay 8]
  nd o4.isSome (bif o4.code==1 then some (1,o4.pay)
  else nd (o4.code==6) (ob ((gd o4.pay 5).int==((gd o4.pay 9).rows.length:Int))))))))):=by kernel_rfl
theorem not_any {n:Nat} {C:Nat→Bool}:((List.range n).all fun k => !C k) = !(List.range n).any C:=by simp [List.all_eq_not_any_not]
theorem s_CoordOkU (N:Nat) (p:List D) (hN:(gd p 0).rows.length<N) (hl:(gd p 0).rows.length≤60) (y:D) (k:Nat) (hk:k<(gd p 0).rows.length) :
  iter (s_CoordOkL2 N p) N [gd p 0,gd p 1,.i 0,.i 0,.b false,y,.i (k:Int),.b true,.i 0,.b false,.i 0,gd p 0,gd p 1,gd ((gd p 0).rows.getD k []) 0,gd ((gd p 0).rows.getD k []) 1,gd ((gd p 0).rows.getD k []) 2,gd ((gd p 0).rows.getD k []) 3,gd ((gd p 0).rows.getD k []) 4] =
  some (bif (List.range k).any (fun j=>recSame ((gd p 0).rows.getD j []) ((gd p 0).rows.getD k [])) then (1,[.b false]) else (4,[gd p 0,gd p 1,.i 0,.i 0,.b false,y,.i (k:Int),.b true,.i 0,.b false,.i (k:Int),gd p 0,gd p 1,gd ((gd p 0).rows.getD k []) 0,gd ((gd p 0).rows.getD k []) 1,gd ((gd p 0).rows.getD k []) 2,gd ((gd p 0).rows.getD k []) 3,gd ((gd p 0).rows.getD k []) 4])):=by
 have e:=for_loop (L:=s_CoordOkL2 N p) (fun j => [gd p 0,gd p 1,.i 0,.i 0,.b false,y,.i (k:Int),.b true,.i 0,.b false,.i (j:Int),gd p 0,gd p 1,gd ((gd p 0).rows.getD k []) 0,gd ((gd p 0).rows.getD k []) 1,gd ((gd p 0).rows.getD k []) 2,gd ((gd p 0).rows.getD k []) 3,gd ((gd p 0).rows.getD k []) 4]) k (fun j => !recSame ((gd p 0).rows.getD j []) ((gd p 0).rows.getD k [])) [.b false] 2 (fun j hj=>?_) ?_ (N:=N) (by omega)
 ·simp only [Int.natCast_zero,not_any] at e
  rw [e]
  cases (List.range k).any (fun j=>recSame ((gd p 0).rows.getD j []) ((gd p 0).rows.getD k [])) <;> rfl
 ·show s_CoordOkL2 N p [_,_,_,_,_,_,.i (k:Int),_,_,_,.i (j:Int),_,_,_,_,_,_,_]=_
  rw [s_CoordOkR2]
  simp only [int_i,c_lt hj,nd_ix (Nat.lt_trans hj hk),w64_succ hj (show k≤9223372036854775807 from by omega),Int.toNat_natCast,recSame]
  cases (gd ((gd p 0).rows.getD j []) 1).int==(gd ((gd p 0).rows.getD k []) 1).int <;> cases (gd ((gd p 0).rows.getD j []) 2).int==(gd ((gd p 0).rows.getD k []) 2).int <;> rfl
 ·show s_CoordOkL2 N p [_,_,_,_,_,_,.i (k:Int),_,_,_,.i (k:Int),_,_,_,_,_,_,_]=_
  rw [s_CoordOkR2]
  simp only [int_i,c_nlt]
def s_CoordOkE:Ent:=(46,e1 (ag rICoord) fun p=>(⟨rb,[.b (coordOk p)]⟩,true))
theorem s_CoordOk_ok:EntOk Tryz.prog s_CoordOkE:=e1_ok fun p h=>evFn_sound (N:=(gd p 0).rows.length+(gd p 1).rows.length+1) (ks:=s_CoordOkK) (key:=bo) s_CoordOkT_ok (enters Tryz.func46) Tryz.func46 fun hw=>by
 rw [s_CoordOk_ev]
 have hl1:=wt_at (hw ⟨ag rICoord,p⟩ (by simp)) (j:=1) rfl
 by_cases h60:(gd p 0).rows.length≤60
 ·rw [ltI_f (show ((gd p 0).rows.length:Int)≤60 from by omega),cond_false]
  by_cases h61:(gd p 1).rows.length≤60
  ·rw [ltI_f (show ((gd p 1).rows.length:Int)≤60 from by omega),cond_false]
   have e0:=for_loop (L:=s_CoordOkL0 ((gd p 0).rows.length+(gd p 1).rows.length+1) p) (fun k => [gd p 0,gd p 1,.i 0,.i 0,.b false,.i (cnt (isYes (gd p 0)) 0 k:Nat),.i (k:Int),gd p 0,gd p 1]) (gd p 0).rows.length (recAt (gd p 0)) [.b false] 0 (fun k hk=>?_) ?_ (N:=(gd p 0).rows.length+(gd p 1).rows.length+1) (by omega)
   ·simp only [cnt_zero,Int.natCast_zero] at e0
    rw [e0]
    simp only [coordOk,h60,decide_true,Bool.true_and]
    cases h1:(List.range (gd p 0).rows.length).all (recAt (gd p 0))
    ·rfl
    ·have e2:=for_loop (L:=s_CoordOkL4 ((gd p 0).rows.length+(gd p 1).rows.length+1) p) (fun k => [gd p 0,gd p 1,.i 0,.i 0,.b false,.i (cnt (isYes (gd p 0)) 0 (gd p 0).rows.length:Nat),.i ((gd p 0).rows.length:Int),.i (k:Int),gd p 0,gd p 1]) (gd p 1).rows.length (ordAt (gd p 0) (gd p 1)) [.b false] 4 (fun k hk=>?_) ?_ (N:=(gd p 0).rows.length+(gd p 1).rows.length+1) (by omega)
     ·simp only [Int.natCast_zero] at e2
      simp only [nd,cond_true,cond_false,Option.isSome_some,Out.code,Out.pay,Option.getD_some,gd_cons_zero,gd_cons_succ,Nat.reduceBEq,Nat.reduceAdd,int_i,bool_b,str_s,rows_l,Bool.not_true,Bool.not_false,beq_self_eq_true]
      rw [e2]
      cases h2:(List.range (gd p 1).rows.length).all (ordAt (gd p 0) (gd p 1)) <;> rfl
     ·show s_CoordOkL4 _ p [_,_,_,_,_,_,_,.i (k:Int),_,_]=_
      rw [s_CoordOkR4]
      simp only [int_i,c_lt hk,nd_ix hk,w64_succ hk hl1,Int.toNat_natCast,nd_take (Nat.le_of_lt hk),bne_not,ordAt]
      cases hb:inB (gd ((gd p 1).rows.getD k []) 0).int 1 ((gd p 0).rows.length:Int)
      ·rfl
      ·have hb':=hb
       simp only [inB,Bool.and_eq_true,decide_eq_true_eq] at hb'
       obtain ⟨m,hm⟩:∃ m:Nat,(gd ((gd p 1).rows.getD k []) 0).int=((m+1:Nat):Int):=⟨((gd ((gd p 1).rows.getD k []) 0).int - 1).toNat,by omega⟩
       rw [hm] at hb' ⊢
       rw [show w64 (((m+1:Nat):Int) - 1)=(m:Int) from by rw [w64_id (by omega) (by omega)]; omega,show ((m+1:Nat):Int) - 1=(m:Int) from by omega,nd_ix (show m<(gd p 0).rows.length from by omega),Int.toNat_natCast]
       cases (gd ((gd p 0).rows.getD m []) 3).int==3 <;> cases hasInt (.l ((gd p 1).rows.take k)) ((m+1:Nat):Int) <;> rfl
     ·show s_CoordOkL4 _ p [_,_,_,_,_,_,_,.i ((gd p 1).rows.length:Int),_,_]=_
      rw [s_CoordOkR4]
      simp only [int_i,c_nlt]
   ·show s_CoordOkL0 _ p [_,_,_,_,_,_,.i (k:Int),_,_]=_
    rw [s_CoordOkR0]
    simp only [int_i,ltI_nat hk,nd_ix hk,w64_succ hk (show (gd p 0).rows.length≤9223372036854775807 from by omega),Int.toNat_natCast,bne_not,recAt,cnt_succ,Nat.zero_add]
    have hc:=cnt_le (isYes (gd p 0)) k 0
    cases (gd ((gd p 0).rows.getD k []) 0).int==((k+1:Nat):Int)
    ·rfl
    cases recOk (sub ((gd p 0).rows.getD k []) 0 5)
    ·rfl
    simp only [nd,cond_true,cond_false,Option.isSome_some,Out.code,Out.pay,Option.getD_some,gd_cons_zero,gd_cons_succ,Nat.reduceBEq,Nat.reduceAdd,int_i,bool_b,str_s,rows_l,Bool.not_true,Bool.not_false,beq_self_eq_true,Bool.true_and,s_CoordOkU ((gd p 0).rows.length+(gd p 1).rows.length+1) p (by omega) h60 _ k hk]
    cases (List.range k).any fun j=>recSame ((gd p 0).rows.getD j []) ((gd p 0).rows.getD k [])
    ·simp only [nd,cond_true,cond_false,Option.isSome_some,Out.code,Out.pay,Option.getD_some,gd_cons_zero,gd_cons_succ,Nat.reduceBEq,Nat.reduceAdd,int_i,bool_b,str_s,rows_l,Bool.not_true,Bool.not_false,beq_self_eq_true,Bool.true_and,show ((gd ((gd p 0).rows.getD k []) 3).int==3)=isYes (gd p 0) k from rfl,w64_id (x:=(cnt (isYes (gd p 0)) 0 k:Int)+1) (by omega) (by omega),w64_succ hk (show (gd p 0).rows.length≤9223372036854775807 from by omega)]
     cases isYes (gd p 0) k <;> rfl
    ·rfl
   ·show s_CoordOkL0 _ p [_,_,_,_,_,_,.i ((gd p 0).rows.length:Int),_,_]=_
    rw [s_CoordOkR0]
    simp only [int_i,c_nlt]
  ·rw [ltI_t (show (60:Int)<((gd p 1).rows.length:Int) from by omega)]
   have hc:=cnt_le (isYes (gd p 0)) (gd p 0).rows.length 0
   simp only [coordOk,show (((cnt (isYes (gd p 0)) 0 (gd p 0).rows.length:Nat):Int)==((gd p 1).rows.length:Int))=false from beq_eq_false_iff_ne.2 (by omega),Bool.and_false]
   rfl
 ·rw [ltI_t (show (60:Int)<((gd p 0).rows.length:Int) from by omega)]
  simp only [coordOk,h60,decide_false,Bool.false_and]
  rfl
end Go.Proofs.YtecefnhhlaolmaaGreat
namespace Go.Proofs.YtecefnhhlaolmaaGreat
set_option maxRecDepth 4096
end Go.Proofs.YtecefnhhlaolmaaGreat
namespace Go.Proofs.YtecefnhhlaolmaaGreat
theorem okF {ok:List D→Bool} {z:D} {m:Nat} (hm:m≤4294967296) (h:z.rows.length≤m) (hr:∀ r,ok r=true):(decide (z.rows.length≤4294967296)&&z.rows.all fun r=>ok r)=true:=by
 simp only [Bool.and_eq_true,decide_eq_true_eq,List.all_eq_true]
 exact ⟨by omega,fun r _=>hr r⟩
theorem left_ge {s:Nat} {n:Int} (h:ltI (left s n) 0=false) (h0:0≤n):left s n=n - s∧(s:Int)≤n:=by
 unfold left at h ⊢
 split
 ·exact ⟨rfl,by assumption⟩
 ·rename_i hn
  rw [if_neg hn] at h
  cases h
end Go.Proofs.YtecefnhhlaolmaaGreat
namespace Go.Proofs.YtecefnhhlaolmaaGreat
set_option maxRecDepth 4096
def rLPart:List S:= [si,si,si]
def rIPart:List S:= [si,si,si]
def cpPart (p:List D):List D:= [gd p 0,gd p 1,gd p 2]
def okPart (p:List D):Bool:=true
theorem toPart_ev (p:List D) (N:Nat):evFn Tryz.prog (find []) N [0,1,2,3] Tryz.f18 (ag rIPart) [⟨ag rLPart,p⟩]=some (bo,some (1,cpPart p)):=by kernel_rfl
def toPartE:Ent:=(18,e1 (ag rLPart) fun p=>(⟨ag rIPart,cpPart p⟩,okPart p))
theorem toPart_ok:EntOk Tryz.prog toPartE:=e1_ok fun p h=>evFn_sound (N:=0) (ks:= [0,1,2,3]) (key:=bo) (find_ok (fN)) (enters Tryz.func18) Tryz.func18 fun _=>by
 have h:okPart p=true:=h
 simp only [okPart,Bool.and_eq_true] at h
 rw [toPart_ev]
def eqPart (p q:List D):Bool:=((gd p 0).int==(gd q 0).int)&&(((gd p 1).int==(gd q 1).int)&&(((gd p 2).int==(gd q 2).int)&&(true)))
theorem eqPart_ev (p q:List D) (N:Nat):evFn Tryz.prog (find []) N [0,1,2,3,4,9,14,19] Tryz.f30 rb [⟨ag rIPart,p⟩,⟨ag rIPart,q⟩]=some (bo,bif !((gd p 0).int==(gd q 0).int) then ob false else bif !((gd p 1).int==(gd q 1).int) then ob false else bif !((gd p 2).int==(gd q 2).int) then ob false else ob true):=by kernel_rfl
def eqPartE:Ent:=(30,e2 (ag rIPart) (ag rIPart) fun p q=>(⟨rb,[.b (eqPart p q)]⟩,true))
theorem eqPart_ok:EntOk Tryz.prog eqPartE:=e2_ok fun p q _=>evFn_sound (N:=0) (ks:= [0,1,2,3,4,9,14,19]) (key:=bo) (find_ok (fN)) (enters Tryz.func30) Tryz.func30 fun _=>by
 rw [eqPart_ev]
 simp only [ne_step]
 rfl
theorem eqPart_refl (p:List D):eqPart p p=true:=by
 simp [eqPart]
def cpPartS (z:D):D:=.l (z.rows.map fun r=>cpPart (sub r 0 3))
def okPartS (z:D):Bool:=decide (z.rows.length≤4294967296)&&z.rows.all fun r=>okPart (sub r 0 3)
def eqPartS:D→D→Bool:=alikeS (fun r s=>eqPart (sub r 0 3) (sub s 0 3))
noncomputable def eqPartSL (N:Nat) (p q:List D):List D→Out:=loopOf Tryz.prog (find [eqPartE]) N [0,1,4,5,10,14,26] Tryz.f9 rb [⟨sd (.sl 62),p⟩,⟨sd (.sl 62),q⟩] 0
theorem eqPartS_rd (p q:List D) (N:Nat) (z u x y:D) (k:Int):eqPartSL N p q [z,u,x,y,.i k]=bif decide (k<z.rows.length) then nd (inRange k z.rows.length) (nd (inRange k u.rows.length) (bif !(eqPart (sub (z.rows.getD k.toNat []) 0 3) (sub (u.rows.getD k.toNat []) 0 3)) then ob false else nx [z,u,x,y,.i (w64 (k+1))])) else ex 0 [z,u,x,y,.i k]:=by kernel_rfl
theorem eqPartS_ev (p q:List D) (N:Nat):evFn Tryz.prog (find [eqPartE]) N [0,1,4,5,10,14,26] Tryz.f9 rb [⟨sd (.sl 62),p⟩,⟨sd (.sl 62),q⟩]=some (bo,bif !(((gd p 0).rows.length:Int)==(gd q 0).rows.length) then ob false else
  (let o:=iter (eqPartSL N p q) N [gd p 0,gd q 0,D0,.b (!(((gd p 0).rows.length:Int)==(gd q 0).rows.length)),.i 0]
   nd o.isSome (bif o.code==1 then some (1,o.pay) else nd (o.code==2) (ob true)))):=by kernel_rfl
def eqPartSE:Ent:=(9,e2 (sd (.sl 62)) (sd (.sl 62)) fun p q=>(⟨rb,[.b (eqPartS (gd p 0) (gd q 0))]⟩,true))
theorem eqPartS_ok:EntOk Tryz.prog eqPartSE:=e2_ok fun p q _=>evFn_sound (N:=(gd p 0).rows.length+1) (ks:= [0,1,4,5,10,14,26]) (key:=bo) (find_ok (fC ⟨eqPart_ok,fN⟩)) (enters Tryz.func9) Tryz.func9 fun hw=>by
 rw [eqPartS_ev]
 by_cases hl:(gd p 0).rows.length=(gd q 0).rows.length
 ·rw [like_loop (E:=(fun r s=>eqPart (sub r 0 3) (sub s 0 3))) (wt_sl (hw ⟨sd (.sl 62),p⟩ (by simp))) hl (eqPartS_rd p q _ _ _ _ _) (by omega)]
  rw [show ((((gd p 0).rows.length:Int))==(gd q 0).rows.length)=true from beq_iff_eq.2 (by omega)]
  show some (bo,_)=some (bo,some (1,[D.b (alikeS (fun r s=>eqPart (sub r 0 3) (sub s 0 3)) (gd p 0) (gd q 0))]))
  cases alikeS (fun r s=>eqPart (sub r 0 3) (sub s 0 3)) (gd p 0) (gd q 0) <;> rfl
 ·rw [show ((((gd p 0).rows.length:Int))==(gd q 0).rows.length)=false from beq_eq_false_iff_ne.2 (by omega)]
  show some (bo,_)=some (bo,some (1,[D.b (alikeS (fun r s=>eqPart (sub r 0 3) (sub s 0 3)) (gd p 0) (gd q 0))]))
  rw [show alikeS (fun r s=>eqPart (sub r 0 3) (sub s 0 3)) (gd p 0) (gd q 0)=false from by simp [alikeS,hl]]
  rfl
theorem eqPartS_refl (z:D):eqPartS z z=true:=alikeS_refl (fun r=>by exact eqPart_refl _) z
def sizePartS (z:D):Nat:=z.rows.length
theorem szPartS_ev (p q:List D) (N:Nat):evFn Tryz.prog (find []) N [0,1,4,10] Tryz.f4 ri [⟨sd (.sl 64),p⟩,⟨ri,q⟩]=some (bo,bif decide (w64 ((gd q 0).int - (gd p 0).rows.length)<0) then oi (-1) else oi (w64 ((gd q 0).int - (gd p 0).rows.length))):=by kernel_rfl
def szPartSE:Ent:=(4,e2 (sd (.sl 64)) ri fun p q=>(⟨ri,[.i (left (sizePartS (gd p 0)) (gd q 0).int)]⟩,fair (gd q 0).int))
theorem szPartS_ok:EntOk Tryz.prog szPartSE:=e2_ok fun p q h=>evFn_sound (N:=(gd p 0).rows.length+1) (ks:= [0,1,4,10]) (key:=bo) (find_ok (fN)) (enters Tryz.func4) Tryz.func4 fun hw=>by
 have h:fair (gd q 0).int=true:=h
 have hl:=wt_sl (hw ⟨sd (.sl 64),p⟩ (by simp))
 have h2:0≤(gd q 0).int∧(gd q 0).int≤1048576:=by simpa [fair] using h
 rw [szPartS_ev,w64_id (by omega) (by omega)]
 rw [oi_if,left_sub]
 rfl
theorem okPartS_of {z:D} {m:Nat} (hm:m≤4294967296) (h:sizePartS z≤m):okPartS z=true:=okF (ok:=fun r=>okPart (sub r 0 3)) hm h fun _=>rfl
def rIMove:List S:= [si,si,si,si,si,si,.sl 131]
def eqMove (p q:List D):Bool:=((gd p 0).int==(gd q 0).int)&&(((gd p 1).int==(gd q 1).int)&&(((gd p 2).int==(gd q 2).int)&&(((gd p 3).int==(gd q 3).int)&&(((gd p 4).int==(gd q 4).int)&&(((gd p 5).int==(gd q 5).int)&&((eqCellS (gd p 6) (gd q 6))&&(true)))))))
theorem eqMove_ev (p q:List D) (N:Nat):evFn Tryz.prog (find [eqCellSE]) N [0,1,2,3,4,9,14,19,24,29,34,40] Tryz.f71 rb [⟨ag rIMove,p⟩,⟨ag rIMove,q⟩]=some (bo,bif !((gd p 0).int==(gd q 0).int) then ob false else bif !((gd p 1).int==(gd q 1).int) then ob false else bif !((gd p 2).int==(gd q 2).int) then ob false else bif !((gd p 3).int==(gd q 3).int) then ob false else bif !((gd p 4).int==(gd q 4).int) then ob false else bif !((gd p 5).int==(gd q 5).int) then ob false else bif !(eqCellS (gd p 6) (gd q 6)) then ob false else ob true):=by kernel_rfl
def eqMoveE:Ent:=(71,e2 (ag rIMove) (ag rIMove) fun p q=>(⟨rb,[.b (eqMove p q)]⟩,true))
theorem eqMove_ok:EntOk Tryz.prog eqMoveE:=e2_ok fun p q _=>evFn_sound (N:=0) (ks:= [0,1,2,3,4,9,14,19,24,29,34,40]) (key:=bo) (find_ok (fC ⟨eqCellS_ok,fN⟩)) (enters Tryz.func71) Tryz.func71 fun _=>by
 rw [eqMove_ev]
 simp only [ne_step]
 rfl
theorem eqMove_refl (p:List D):eqMove p p=true:=by
 simp [eqMove,eqCellS_refl]
def rIAtlas:List S:= [si,.sl 62,si,si,si,si,si,si,.sl 131]
def eqAtlas (p q:List D):Bool:=((gd p 0).int==(gd q 0).int)&&((eqPartS (gd p 1) (gd q 1))&&((eqMove (sub p 2 7) (sub q 2 7))&&(true)))
theorem eqAtlas_ev (p q:List D) (N:Nat):evFn Tryz.prog (find [eqPartSE,eqMoveE]) N [0,1,2,3,4,9,15,21] Tryz.f24 rb [⟨ag rIAtlas,p⟩,⟨ag rIAtlas,q⟩]=some (bo,bif !((gd p 0).int==(gd q 0).int) then ob false else bif !(eqPartS (gd p 1) (gd q 1)) then ob false else bif !(eqMove (sub p 2 7) (sub q 2 7)) then ob false else ob true):=by kernel_rfl
def eqAtlasE:Ent:=(24,e2 (ag rIAtlas) (ag rIAtlas) fun p q=>(⟨rb,[.b (eqAtlas p q)]⟩,true))
theorem eqAtlas_ok:EntOk Tryz.prog eqAtlasE:=e2_ok fun p q _=>evFn_sound (N:=0) (ks:= [0,1,2,3,4,9,15,21]) (key:=bo) (find_ok (fC ⟨eqPartS_ok,fC ⟨eqMove_ok,fN⟩⟩)) (enters Tryz.func24) Tryz.func24 fun _=>by
 rw [eqAtlas_ev]
 simp only [ne_step]
 rfl
theorem eqAtlas_refl (p:List D):eqAtlas p p=true:=by
 simp [eqAtlas,eqPartS_refl,eqMove_refl]
end Go.Proofs.YtecefnhhlaolmaaGreat
namespace Go.Proofs.YtecefnhhlaolmaaGreat
set_option maxRecDepth 4096
def rILock:List S:= [si,si,si,si]
def eqLock (p q:List D):Bool:=((gd p 0).int==(gd q 0).int)&&(((gd p 1).int==(gd q 1).int)&&(((gd p 2).int==(gd q 2).int)&&(((gd p 3).int==(gd q 3).int)&&(true))))
theorem eqLock_ev (p q:List D) (N:Nat):evFn Tryz.prog (find []) N [0,1,2,3,4,9,14,19,24] Tryz.f210 rb [⟨ag rILock,p⟩,⟨ag rILock,q⟩]=some (bo,bif !((gd p 0).int==(gd q 0).int) then ob false else bif !((gd p 1).int==(gd q 1).int) then ob false else bif !((gd p 2).int==(gd q 2).int) then ob false else bif !((gd p 3).int==(gd q 3).int) then ob false else ob true):=by kernel_rfl
def eqLockE:Ent:=(210,e2 (ag rILock) (ag rILock) fun p q=>(⟨rb,[.b (eqLock p q)]⟩,true))
theorem eqLock_ok:EntOk Tryz.prog eqLockE:=e2_ok fun p q _=>evFn_sound (N:=0) (ks:= [0,1,2,3,4,9,14,19,24]) (key:=bo) (find_ok (fN)) (enters Tryz.func210) Tryz.func210 fun _=>by
 rw [eqLock_ev]
 simp only [ne_step]
 rfl
theorem eqLock_refl (p:List D):eqLock p p=true:=by
 simp [eqLock]
def eqLockS:D→D→Bool:=alikeS (fun r s=>eqLock (sub r 0 4) (sub s 0 4))
noncomputable def eqLockSL (N:Nat) (p q:List D):List D→Out:=loopOf Tryz.prog (find [eqLockE]) N [0,1,4,5,10,14,26] Tryz.f168 rb [⟨sd (.sl 133),p⟩,⟨sd (.sl 133),q⟩] 0
theorem eqLockS_rd (p q:List D) (N:Nat) (z u x y:D) (k:Int):eqLockSL N p q [z,u,x,y,.i k]=bif decide (k<z.rows.length) then nd (inRange k z.rows.length) (nd (inRange k u.rows.length) (bif !(eqLock (sub (z.rows.getD k.toNat []) 0 4) (sub (u.rows.getD k.toNat []) 0 4)) then ob false else nx [z,u,x,y,.i (w64 (k+1))])) else ex 0 [z,u,x,y,.i k]:=by kernel_rfl
theorem eqLockS_ev (p q:List D) (N:Nat):evFn Tryz.prog (find [eqLockE]) N [0,1,4,5,10,14,26] Tryz.f168 rb [⟨sd (.sl 133),p⟩,⟨sd (.sl 133),q⟩]=some (bo,bif !(((gd p 0).rows.length:Int)==(gd q 0).rows.length) then ob false else
  (let o:=iter (eqLockSL N p q) N [gd p 0,gd q 0,D0,.b (!(((gd p 0).rows.length:Int)==(gd q 0).rows.length)),.i 0]
   nd o.isSome (bif o.code==1 then some (1,o.pay) else nd (o.code==2) (ob true)))):=by kernel_rfl
def eqLockSE:Ent:=(168,e2 (sd (.sl 133)) (sd (.sl 133)) fun p q=>(⟨rb,[.b (eqLockS (gd p 0) (gd q 0))]⟩,true))
theorem eqLockS_ok:EntOk Tryz.prog eqLockSE:=e2_ok fun p q _=>evFn_sound (N:=(gd p 0).rows.length+1) (ks:= [0,1,4,5,10,14,26]) (key:=bo) (find_ok (fC ⟨eqLock_ok,fN⟩)) (enters Tryz.func168) Tryz.func168 fun hw=>by
 rw [eqLockS_ev]
 by_cases hl:(gd p 0).rows.length=(gd q 0).rows.length
 ·rw [like_loop (E:=(fun r s=>eqLock (sub r 0 4) (sub s 0 4))) (wt_sl (hw ⟨sd (.sl 133),p⟩ (by simp))) hl (eqLockS_rd p q _ _ _ _ _) (by omega)]
  rw [show ((((gd p 0).rows.length:Int))==(gd q 0).rows.length)=true from beq_iff_eq.2 (by omega)]
  show some (bo,_)=some (bo,some (1,[D.b (alikeS (fun r s=>eqLock (sub r 0 4) (sub s 0 4)) (gd p 0) (gd q 0))]))
  cases alikeS (fun r s=>eqLock (sub r 0 4) (sub s 0 4)) (gd p 0) (gd q 0) <;> rfl
 ·rw [show ((((gd p 0).rows.length:Int))==(gd q 0).rows.length)=false from beq_eq_false_iff_ne.2 (by omega)]
  show some (bo,_)=some (bo,some (1,[D.b (alikeS (fun r s=>eqLock (sub r 0 4) (sub s 0 4)) (gd p 0) (gd q 0))]))
  rw [show alikeS (fun r s=>eqLock (sub r 0 4) (sub s 0 4)) (gd p 0) (gd q 0)=false from by simp [alikeS,hl]]
  rfl
theorem eqLockS_refl (z:D):eqLockS z z=true:=alikeS_refl (fun r=>by exact eqLock_refl _) z
def rIHeld:List S:= [si,.sl 178]
def eqHeld (p q:List D):Bool:=((gd p 0).int==(gd q 0).int)&&((eqWriteS (gd p 1) (gd q 1))&&(true))
theorem eqHeld_ev (p q:List D) (N:Nat):evFn Tryz.prog (find [eqWriteSE]) N [0,1,2,3,4,9,15] Tryz.f211 rb [⟨ag rIHeld,p⟩,⟨ag rIHeld,q⟩]=some (bo,bif !((gd p 0).int==(gd q 0).int) then ob false else bif !(eqWriteS (gd p 1) (gd q 1)) then ob false else ob true):=by kernel_rfl
def eqHeldE:Ent:=(211,e2 (ag rIHeld) (ag rIHeld) fun p q=>(⟨rb,[.b (eqHeld p q)]⟩,true))
theorem eqHeld_ok:EntOk Tryz.prog eqHeldE:=e2_ok fun p q _=>evFn_sound (N:=0) (ks:= [0,1,2,3,4,9,15]) (key:=bo) (find_ok (fC ⟨eqWriteS_ok,fN⟩)) (enters Tryz.func211) Tryz.func211 fun _=>by
 rw [eqHeld_ev]
 simp only [ne_step]
 rfl
theorem eqHeld_refl (p:List D):eqHeld p p=true:=by
 simp [eqHeld,eqWriteS_refl]
def eqHeldS:D→D→Bool:=alikeS (fun r s=>eqHeld (sub r 0 2) (sub s 0 2))
noncomputable def eqHeldSL (N:Nat) (p q:List D):List D→Out:=loopOf Tryz.prog (find [eqHeldE]) N [0,1,4,5,10,14,26] Tryz.f169 rb [⟨sd (.sl 177),p⟩,⟨sd (.sl 177),q⟩] 0
theorem eqHeldS_rd (p q:List D) (N:Nat) (z u x y:D) (k:Int):eqHeldSL N p q [z,u,x,y,.i k]=bif decide (k<z.rows.length) then nd (inRange k z.rows.length) (nd (inRange k u.rows.length) (bif !(eqHeld (sub (z.rows.getD k.toNat []) 0 2) (sub (u.rows.getD k.toNat []) 0 2)) then ob false else nx [z,u,x,y,.i (w64 (k+1))])) else ex 0 [z,u,x,y,.i k]:=by kernel_rfl
theorem eqHeldS_ev (p q:List D) (N:Nat):evFn Tryz.prog (find [eqHeldE]) N [0,1,4,5,10,14,26] Tryz.f169 rb [⟨sd (.sl 177),p⟩,⟨sd (.sl 177),q⟩]=some (bo,bif !(((gd p 0).rows.length:Int)==(gd q 0).rows.length) then ob false else
  (let o:=iter (eqHeldSL N p q) N [gd p 0,gd q 0,D0,.b (!(((gd p 0).rows.length:Int)==(gd q 0).rows.length)),.i 0]
   nd o.isSome (bif o.code==1 then some (1,o.pay) else nd (o.code==2) (ob true)))):=by kernel_rfl
def eqHeldSE:Ent:=(169,e2 (sd (.sl 177)) (sd (.sl 177)) fun p q=>(⟨rb,[.b (eqHeldS (gd p 0) (gd q 0))]⟩,true))
theorem eqHeldS_ok:EntOk Tryz.prog eqHeldSE:=e2_ok fun p q _=>evFn_sound (N:=(gd p 0).rows.length+1) (ks:= [0,1,4,5,10,14,26]) (key:=bo) (find_ok (fC ⟨eqHeld_ok,fN⟩)) (enters Tryz.func169) Tryz.func169 fun hw=>by
 rw [eqHeldS_ev]
 by_cases hl:(gd p 0).rows.length=(gd q 0).rows.length
 ·rw [like_loop (E:=(fun r s=>eqHeld (sub r 0 2) (sub s 0 2))) (wt_sl (hw ⟨sd (.sl 177),p⟩ (by simp))) hl (eqHeldS_rd p q _ _ _ _ _) (by omega)]
  rw [show ((((gd p 0).rows.length:Int))==(gd q 0).rows.length)=true from beq_iff_eq.2 (by omega)]
  show some (bo,_)=some (bo,some (1,[D.b (alikeS (fun r s=>eqHeld (sub r 0 2) (sub s 0 2)) (gd p 0) (gd q 0))]))
  cases alikeS (fun r s=>eqHeld (sub r 0 2) (sub s 0 2)) (gd p 0) (gd q 0) <;> rfl
 ·rw [show ((((gd p 0).rows.length:Int))==(gd q 0).rows.length)=false from beq_eq_false_iff_ne.2 (by omega)]
  show some (bo,_)=some (bo,some (1,[D.b (alikeS (fun r s=>eqHeld (sub r 0 2) (sub s 0 2)) (gd p 0) (gd q 0))]))
  rw [show alikeS (fun r s=>eqHeld (sub r 0 2) (sub s 0 2)) (gd p 0) (gd q 0)=false from by simp [alikeS,hl]]
  rfl
theorem eqHeldS_refl (z:D):eqHeldS z z=true:=alikeS_refl (fun r=>by exact eqHeld_refl _) z
end Go.Proofs.YtecefnhhlaolmaaGreat
namespace Go.Proofs.YtecefnhhlaolmaaGreat
set_option maxRecDepth 4096
def rIShard:List S:= [si,.sl 82,.sl 82,.sl 131,.sl 133,.sl 177,.sl 3,.sl 3,si]
def eqShard (p q:List D):Bool:=((gd p 0).int==(gd q 0).int)&&((eqRangeS (gd p 1) (gd q 1))&&((eqRangeS (gd p 2) (gd q 2))&&((eqCellS (gd p 3) (gd q 3))&&((eqLockS (gd p 4) (gd q 4))&&((eqHeldS (gd p 5) (gd q 5))&&((eqIntS (gd p 6) (gd q 6))&&((eqIntS (gd p 7) (gd q 7))&&(((gd p 8).int==(gd q 8).int)&&(true)))))))))
theorem eqShard_ev (p q:List D) (N:Nat):evFn Tryz.prog (find [eqRangeSE,eqRangeSE,eqCellSE,eqLockSE,eqHeldSE,eqIntSE,eqIntSE]) N [0,1,2,3,4,9,15,21,27,33,39,45,51,56] Tryz.f72 rb [⟨ag rIShard,p⟩,⟨ag rIShard,q⟩]=some (bo,bif !((gd p 0).int==(gd q 0).int) then ob false else bif !(eqRangeS (gd p 1) (gd q 1)) then ob false else bif !(eqRangeS (gd p 2) (gd q 2)) then ob false else bif !(eqCellS (gd p 3) (gd q 3)) then ob false else bif !(eqLockS (gd p 4) (gd q 4)) then ob false else bif !(eqHeldS (gd p 5) (gd q 5)) then ob false else bif !(eqIntS (gd p 6) (gd q 6)) then ob false else bif !(eqIntS (gd p 7) (gd q 7)) then ob false else bif !((gd p 8).int==(gd q 8).int) then ob false else ob true):=by kernel_rfl
def eqShardE:Ent:=(72,e2 (ag rIShard) (ag rIShard) fun p q=>(⟨rb,[.b (eqShard p q)]⟩,true))
theorem eqShard_ok:EntOk Tryz.prog eqShardE:=e2_ok fun p q _=>evFn_sound (N:=0) (ks:= [0,1,2,3,4,9,15,21,27,33,39,45,51,56]) (key:=bo) (find_ok (fC ⟨eqRangeS_ok,fC ⟨eqRangeS_ok,fC ⟨eqCellS_ok,fC ⟨eqLockS_ok,fC ⟨eqHeldS_ok,fC ⟨eqIntS_ok,fC ⟨eqIntS_ok,fN⟩⟩⟩⟩⟩⟩⟩)) (enters Tryz.func72) Tryz.func72 fun _=>by
 rw [eqShard_ev]
 simp only [ne_step]
 rfl
theorem eqShard_refl (p:List D):eqShard p p=true:=by
 simp [eqShard,eqRangeS_refl,eqRangeS_refl,eqCellS_refl,eqLockS_refl,eqHeldS_refl,eqIntS_refl,eqIntS_refl]
def eqShardS:D→D→Bool:=alikeS (fun r s=>eqShard (sub r 0 9) (sub s 0 9))
noncomputable def eqShardSL (N:Nat) (p q:List D):List D→Out:=loopOf Tryz.prog (find [eqShardE]) N [0,1,4,5,10,14,26] Tryz.f25 rb [⟨sd (.sl 53),p⟩,⟨sd (.sl 53),q⟩] 0
theorem eqShardS_rd (p q:List D) (N:Nat) (z u x y:D) (k:Int):eqShardSL N p q [z,u,x,y,.i k]=bif decide (k<z.rows.length) then nd (inRange k z.rows.length) (nd (inRange k u.rows.length) (bif !(eqShard (sub (z.rows.getD k.toNat []) 0 9) (sub (u.rows.getD k.toNat []) 0 9)) then ob false else nx [z,u,x,y,.i (w64 (k+1))])) else ex 0 [z,u,x,y,.i k]:=by kernel_rfl
theorem eqShardS_ev (p q:List D) (N:Nat):evFn Tryz.prog (find [eqShardE]) N [0,1,4,5,10,14,26] Tryz.f25 rb [⟨sd (.sl 53),p⟩,⟨sd (.sl 53),q⟩]=some (bo,bif !(((gd p 0).rows.length:Int)==(gd q 0).rows.length) then ob false else
  (let o:=iter (eqShardSL N p q) N [gd p 0,gd q 0,D0,.b (!(((gd p 0).rows.length:Int)==(gd q 0).rows.length)),.i 0]
   nd o.isSome (bif o.code==1 then some (1,o.pay) else nd (o.code==2) (ob true)))):=by kernel_rfl
def eqShardSE:Ent:=(25,e2 (sd (.sl 53)) (sd (.sl 53)) fun p q=>(⟨rb,[.b (eqShardS (gd p 0) (gd q 0))]⟩,true))
theorem eqShardS_ok:EntOk Tryz.prog eqShardSE:=e2_ok fun p q _=>evFn_sound (N:=(gd p 0).rows.length+1) (ks:= [0,1,4,5,10,14,26]) (key:=bo) (find_ok (fC ⟨eqShard_ok,fN⟩)) (enters Tryz.func25) Tryz.func25 fun hw=>by
 rw [eqShardS_ev]
 by_cases hl:(gd p 0).rows.length=(gd q 0).rows.length
 ·rw [like_loop (E:=(fun r s=>eqShard (sub r 0 9) (sub s 0 9))) (wt_sl (hw ⟨sd (.sl 53),p⟩ (by simp))) hl (eqShardS_rd p q _ _ _ _ _) (by omega)]
  rw [show ((((gd p 0).rows.length:Int))==(gd q 0).rows.length)=true from beq_iff_eq.2 (by omega)]
  show some (bo,_)=some (bo,some (1,[D.b (alikeS (fun r s=>eqShard (sub r 0 9) (sub s 0 9)) (gd p 0) (gd q 0))]))
  cases alikeS (fun r s=>eqShard (sub r 0 9) (sub s 0 9)) (gd p 0) (gd q 0) <;> rfl
 ·rw [show ((((gd p 0).rows.length:Int))==(gd q 0).rows.length)=false from beq_eq_false_iff_ne.2 (by omega)]
  show some (bo,_)=some (bo,some (1,[D.b (alikeS (fun r s=>eqShard (sub r 0 9) (sub s 0 9)) (gd p 0) (gd q 0))]))
  rw [show alikeS (fun r s=>eqShard (sub r 0 9) (sub s 0 9)) (gd p 0) (gd q 0)=false from by simp [alikeS,hl]]
  rfl
theorem eqShardS_refl (z:D):eqShardS z z=true:=alikeS_refl (fun r=>by exact eqShard_refl _) z
end Go.Proofs.YtecefnhhlaolmaaGreat
namespace Go.Proofs.YtecefnhhlaolmaaGreat
set_option maxRecDepth 4096
def rISeen:List S:= [si,si,si]
def eqSeen (p q:List D):Bool:=((gd p 0).int==(gd q 0).int)&&(((gd p 1).int==(gd q 1).int)&&(((gd p 2).int==(gd q 2).int)&&(true)))
theorem eqSeen_ev (p q:List D) (N:Nat):evFn Tryz.prog (find []) N [0,1,2,3,4,9,14,19] Tryz.f213 rb [⟨ag rISeen,p⟩,⟨ag rISeen,q⟩]=some (bo,bif !((gd p 0).int==(gd q 0).int) then ob false else bif !((gd p 1).int==(gd q 1).int) then ob false else bif !((gd p 2).int==(gd q 2).int) then ob false else ob true):=by kernel_rfl
def eqSeenE:Ent:=(213,e2 (ag rISeen) (ag rISeen) fun p q=>(⟨rb,[.b (eqSeen p q)]⟩,true))
theorem eqSeen_ok:EntOk Tryz.prog eqSeenE:=e2_ok fun p q _=>evFn_sound (N:=0) (ks:= [0,1,2,3,4,9,14,19]) (key:=bo) (find_ok (fN)) (enters Tryz.func213) Tryz.func213 fun _=>by
 rw [eqSeen_ev]
 simp only [ne_step]
 rfl
theorem eqSeen_refl (p:List D):eqSeen p p=true:=by
 simp [eqSeen]
def eqSeenS:D→D→Bool:=alikeS (fun r s=>eqSeen (sub r 0 3) (sub s 0 3))
noncomputable def eqSeenSL (N:Nat) (p q:List D):List D→Out:=loopOf Tryz.prog (find [eqSeenE]) N [0,1,4,5,10,14,26] Tryz.f172 rb [⟨sd (.sl 141),p⟩,⟨sd (.sl 141),q⟩] 0
theorem eqSeenS_rd (p q:List D) (N:Nat) (z u x y:D) (k:Int):eqSeenSL N p q [z,u,x,y,.i k]=bif decide (k<z.rows.length) then nd (inRange k z.rows.length) (nd (inRange k u.rows.length) (bif !(eqSeen (sub (z.rows.getD k.toNat []) 0 3) (sub (u.rows.getD k.toNat []) 0 3)) then ob false else nx [z,u,x,y,.i (w64 (k+1))])) else ex 0 [z,u,x,y,.i k]:=by kernel_rfl
theorem eqSeenS_ev (p q:List D) (N:Nat):evFn Tryz.prog (find [eqSeenE]) N [0,1,4,5,10,14,26] Tryz.f172 rb [⟨sd (.sl 141),p⟩,⟨sd (.sl 141),q⟩]=some (bo,bif !(((gd p 0).rows.length:Int)==(gd q 0).rows.length) then ob false else
  (let o:=iter (eqSeenSL N p q) N [gd p 0,gd q 0,D0,.b (!(((gd p 0).rows.length:Int)==(gd q 0).rows.length)),.i 0]
   nd o.isSome (bif o.code==1 then some (1,o.pay) else nd (o.code==2) (ob true)))):=by kernel_rfl
def eqSeenSE:Ent:=(172,e2 (sd (.sl 141)) (sd (.sl 141)) fun p q=>(⟨rb,[.b (eqSeenS (gd p 0) (gd q 0))]⟩,true))
theorem eqSeenS_ok:EntOk Tryz.prog eqSeenSE:=e2_ok fun p q _=>evFn_sound (N:=(gd p 0).rows.length+1) (ks:= [0,1,4,5,10,14,26]) (key:=bo) (find_ok (fC ⟨eqSeen_ok,fN⟩)) (enters Tryz.func172) Tryz.func172 fun hw=>by
 rw [eqSeenS_ev]
 by_cases hl:(gd p 0).rows.length=(gd q 0).rows.length
 ·rw [like_loop (E:=(fun r s=>eqSeen (sub r 0 3) (sub s 0 3))) (wt_sl (hw ⟨sd (.sl 141),p⟩ (by simp))) hl (eqSeenS_rd p q _ _ _ _ _) (by omega)]
  rw [show ((((gd p 0).rows.length:Int))==(gd q 0).rows.length)=true from beq_iff_eq.2 (by omega)]
  show some (bo,_)=some (bo,some (1,[D.b (alikeS (fun r s=>eqSeen (sub r 0 3) (sub s 0 3)) (gd p 0) (gd q 0))]))
  cases alikeS (fun r s=>eqSeen (sub r 0 3) (sub s 0 3)) (gd p 0) (gd q 0) <;> rfl
 ·rw [show ((((gd p 0).rows.length:Int))==(gd q 0).rows.length)=false from beq_eq_false_iff_ne.2 (by omega)]
  show some (bo,_)=some (bo,some (1,[D.b (alikeS (fun r s=>eqSeen (sub r 0 3) (sub s 0 3)) (gd p 0) (gd q 0))]))
  rw [show alikeS (fun r s=>eqSeen (sub r 0 3) (sub s 0 3)) (gd p 0) (gd q 0)=false from by simp [alikeS,hl]]
  rfl
theorem eqSeenS_refl (z:D):eqSeenS z z=true:=alikeS_refl (fun r=>by exact eqSeen_refl _) z
def rIClient:List S:= [si,si,si,.sl 178,.sl 141,si,si,si,.sl 62]
def eqClient (p q:List D):Bool:=((gd p 0).int==(gd q 0).int)&&(((gd p 1).int==(gd q 1).int)&&(((gd p 2).int==(gd q 2).int)&&((eqWriteS (gd p 3) (gd q 3))&&((eqSeenS (gd p 4) (gd q 4))&&(((gd p 5).int==(gd q 5).int)&&(((gd p 6).int==(gd q 6).int)&&(((gd p 7).int==(gd q 7).int)&&((eqPartS (gd p 8) (gd q 8))&&(true)))))))))
theorem eqClient_ev (p q:List D) (N:Nat):evFn Tryz.prog (find [eqWriteSE,eqSeenSE,eqPartSE]) N [0,1,2,3,4,9,14,19,25,31,36,41,46,52] Tryz.f75 rb [⟨ag rIClient,p⟩,⟨ag rIClient,q⟩]=some (bo,bif !((gd p 0).int==(gd q 0).int) then ob false else bif !((gd p 1).int==(gd q 1).int) then ob false else bif !((gd p 2).int==(gd q 2).int) then ob false else bif !(eqWriteS (gd p 3) (gd q 3)) then ob false else bif !(eqSeenS (gd p 4) (gd q 4)) then ob false else bif !((gd p 5).int==(gd q 5).int) then ob false else bif !((gd p 6).int==(gd q 6).int) then ob false else bif !((gd p 7).int==(gd q 7).int) then ob false else bif !(eqPartS (gd p 8) (gd q 8)) then ob false else ob true):=by kernel_rfl
def eqClientE:Ent:=(75,e2 (ag rIClient) (ag rIClient) fun p q=>(⟨rb,[.b (eqClient p q)]⟩,true))
theorem eqClient_ok:EntOk Tryz.prog eqClientE:=e2_ok fun p q _=>evFn_sound (N:=0) (ks:= [0,1,2,3,4,9,14,19,25,31,36,41,46,52]) (key:=bo) (find_ok (fC ⟨eqWriteS_ok,fC ⟨eqSeenS_ok,fC ⟨eqPartS_ok,fN⟩⟩⟩)) (enters Tryz.func75) Tryz.func75 fun _=>by
 rw [eqClient_ev]
 simp only [ne_step]
 rfl
theorem eqClient_refl (p:List D):eqClient p p=true:=by
 simp [eqClient,eqWriteS_refl,eqSeenS_refl,eqPartS_refl]
def eqClientS:D→D→Bool:=alikeS (fun r s=>eqClient (sub r 0 9) (sub s 0 9))
noncomputable def eqClientSL (N:Nat) (p q:List D):List D→Out:=loopOf Tryz.prog (find [eqClientE]) N [0,1,4,5,10,14,26] Tryz.f27 rb [⟨sd (.sl 59),p⟩,⟨sd (.sl 59),q⟩] 0
theorem eqClientS_rd (p q:List D) (N:Nat) (z u x y:D) (k:Int):eqClientSL N p q [z,u,x,y,.i k]=bif decide (k<z.rows.length) then nd (inRange k z.rows.length) (nd (inRange k u.rows.length) (bif !(eqClient (sub (z.rows.getD k.toNat []) 0 9) (sub (u.rows.getD k.toNat []) 0 9)) then ob false else nx [z,u,x,y,.i (w64 (k+1))])) else ex 0 [z,u,x,y,.i k]:=by kernel_rfl
theorem eqClientS_ev (p q:List D) (N:Nat):evFn Tryz.prog (find [eqClientE]) N [0,1,4,5,10,14,26] Tryz.f27 rb [⟨sd (.sl 59),p⟩,⟨sd (.sl 59),q⟩]=some (bo,bif !(((gd p 0).rows.length:Int)==(gd q 0).rows.length) then ob false else
  (let o:=iter (eqClientSL N p q) N [gd p 0,gd q 0,D0,.b (!(((gd p 0).rows.length:Int)==(gd q 0).rows.length)),.i 0]
   nd o.isSome (bif o.code==1 then some (1,o.pay) else nd (o.code==2) (ob true)))):=by kernel_rfl
def eqClientSE:Ent:=(27,e2 (sd (.sl 59)) (sd (.sl 59)) fun p q=>(⟨rb,[.b (eqClientS (gd p 0) (gd q 0))]⟩,true))
theorem eqClientS_ok:EntOk Tryz.prog eqClientSE:=e2_ok fun p q _=>evFn_sound (N:=(gd p 0).rows.length+1) (ks:= [0,1,4,5,10,14,26]) (key:=bo) (find_ok (fC ⟨eqClient_ok,fN⟩)) (enters Tryz.func27) Tryz.func27 fun hw=>by
 rw [eqClientS_ev]
 by_cases hl:(gd p 0).rows.length=(gd q 0).rows.length
 ·rw [like_loop (E:=(fun r s=>eqClient (sub r 0 9) (sub s 0 9))) (wt_sl (hw ⟨sd (.sl 59),p⟩ (by simp))) hl (eqClientS_rd p q _ _ _ _ _) (by omega)]
  rw [show ((((gd p 0).rows.length:Int))==(gd q 0).rows.length)=true from beq_iff_eq.2 (by omega)]
  show some (bo,_)=some (bo,some (1,[D.b (alikeS (fun r s=>eqClient (sub r 0 9) (sub s 0 9)) (gd p 0) (gd q 0))]))
  cases alikeS (fun r s=>eqClient (sub r 0 9) (sub s 0 9)) (gd p 0) (gd q 0) <;> rfl
 ·rw [show ((((gd p 0).rows.length:Int))==(gd q 0).rows.length)=false from beq_eq_false_iff_ne.2 (by omega)]
  show some (bo,_)=some (bo,some (1,[D.b (alikeS (fun r s=>eqClient (sub r 0 9) (sub s 0 9)) (gd p 0) (gd q 0))]))
  rw [show alikeS (fun r s=>eqClient (sub r 0 9) (sub s 0 9)) (gd p 0) (gd q 0)=false from by simp [alikeS,hl]]
  rfl
theorem eqClientS_refl (z:D):eqClientS z z=true:=alikeS_refl (fun r=>by exact eqClient_refl _) z
end Go.Proofs.YtecefnhhlaolmaaGreat
namespace Go.Proofs.YtecefnhhlaolmaaGreat
set_option maxRecDepth 4096
def rILetter:List S:= [si,si,si,si,si,si,si,si,si,.bool,.sl 82,.sl 178,.sl 131,.sl 180]
def eqLetter (p q:List D):Bool:=((gd p 0).int==(gd q 0).int)&&(((gd p 1).int==(gd q 1).int)&&(((gd p 2).int==(gd q 2).int)&&(((gd p 3).int==(gd q 3).int)&&(((gd p 4).int==(gd q 4).int)&&(((gd p 5).int==(gd q 5).int)&&(((gd p 6).int==(gd q 6).int)&&(((gd p 7).int==(gd q 7).int)&&(((gd p 8).int==(gd q 8).int)&&(((gd p 9).bool==(gd q 9).bool)&&((eqRangeS (gd p 10) (gd q 10))&&((eqWriteS (gd p 11) (gd q 11))&&((eqCellS (gd p 12) (gd q 12))&&((eqShareS (gd p 13) (gd q 13))&&(true))))))))))))))
theorem eqLetter_ev (p q:List D) (N:Nat):evFn Tryz.prog (find [eqRangeSE,eqWriteSE,eqCellSE,eqShareSE]) N [0,1,2,3,4,9,14,19,24,29,34,39,44,49,54,60,66,72,78] Tryz.f76 rb [⟨ag rILetter,p⟩,⟨ag rILetter,q⟩]=some (bo,bif !((gd p 0).int==(gd q 0).int) then ob false else bif !((gd p 1).int==(gd q 1).int) then ob false else bif !((gd p 2).int==(gd q 2).int) then ob false else bif !((gd p 3).int==(gd q 3).int) then ob false else bif !((gd p 4).int==(gd q 4).int) then ob false else bif !((gd p 5).int==(gd q 5).int) then ob false else bif !((gd p 6).int==(gd q 6).int) then ob false else bif !((gd p 7).int==(gd q 7).int) then ob false else bif !((gd p 8).int==(gd q 8).int) then ob false else bif !((gd p 9).bool==(gd q 9).bool) then ob false else bif !(eqRangeS (gd p 10) (gd q 10)) then ob false else bif !(eqWriteS (gd p 11) (gd q 11)) then ob false else bif !(eqCellS (gd p 12) (gd q 12)) then ob false else bif !(eqShareS (gd p 13) (gd q 13)) then ob false else ob true):=by kernel_rfl
def eqLetterE:Ent:=(76,e2 (ag rILetter) (ag rILetter) fun p q=>(⟨rb,[.b (eqLetter p q)]⟩,true))
theorem eqLetter_ok:EntOk Tryz.prog eqLetterE:=e2_ok fun p q _=>evFn_sound (N:=0) (ks:= [0,1,2,3,4,9,14,19,24,29,34,39,44,49,54,60,66,72,78]) (key:=bo) (find_ok (fC ⟨eqRangeS_ok,fC ⟨eqWriteS_ok,fC ⟨eqCellS_ok,fC ⟨eqShareS_ok,fN⟩⟩⟩⟩)) (enters Tryz.func76) Tryz.func76 fun _=>by
 rw [eqLetter_ev]
 simp only [ne_step]
 rfl
theorem eqLetter_refl (p:List D):eqLetter p p=true:=by
 simp [eqLetter,eqRangeS_refl,eqWriteS_refl,eqCellS_refl,eqShareS_refl]
def eqLetterS:D→D→Bool:=alikeS (fun r s=>eqLetter (sub r 0 14) (sub s 0 14))
noncomputable def eqLetterSL (N:Nat) (p q:List D):List D→Out:=loopOf Tryz.prog (find [eqLetterE]) N [0,1,4,5,10,14,26] Tryz.f28 rb [⟨sd (.sl 88),p⟩,⟨sd (.sl 88),q⟩] 0
theorem eqLetterS_rd (p q:List D) (N:Nat) (z u x y:D) (k:Int):eqLetterSL N p q [z,u,x,y,.i k]=bif decide (k<z.rows.length) then nd (inRange k z.rows.length) (nd (inRange k u.rows.length) (bif !(eqLetter (sub (z.rows.getD k.toNat []) 0 14) (sub (u.rows.getD k.toNat []) 0 14)) then ob false else nx [z,u,x,y,.i (w64 (k+1))])) else ex 0 [z,u,x,y,.i k]:=by kernel_rfl
theorem eqLetterS_ev (p q:List D) (N:Nat):evFn Tryz.prog (find [eqLetterE]) N [0,1,4,5,10,14,26] Tryz.f28 rb [⟨sd (.sl 88),p⟩,⟨sd (.sl 88),q⟩]=some (bo,bif !(((gd p 0).rows.length:Int)==(gd q 0).rows.length) then ob false else
  (let o:=iter (eqLetterSL N p q) N [gd p 0,gd q 0,D0,.b (!(((gd p 0).rows.length:Int)==(gd q 0).rows.length)),.i 0]
   nd o.isSome (bif o.code==1 then some (1,o.pay) else nd (o.code==2) (ob true)))):=by kernel_rfl
def eqLetterSE:Ent:=(28,e2 (sd (.sl 88)) (sd (.sl 88)) fun p q=>(⟨rb,[.b (eqLetterS (gd p 0) (gd q 0))]⟩,true))
theorem eqLetterS_ok:EntOk Tryz.prog eqLetterSE:=e2_ok fun p q _=>evFn_sound (N:=(gd p 0).rows.length+1) (ks:= [0,1,4,5,10,14,26]) (key:=bo) (find_ok (fC ⟨eqLetter_ok,fN⟩)) (enters Tryz.func28) Tryz.func28 fun hw=>by
 rw [eqLetterS_ev]
 by_cases hl:(gd p 0).rows.length=(gd q 0).rows.length
 ·rw [like_loop (E:=(fun r s=>eqLetter (sub r 0 14) (sub s 0 14))) (wt_sl (hw ⟨sd (.sl 88),p⟩ (by simp))) hl (eqLetterS_rd p q _ _ _ _ _) (by omega)]
  rw [show ((((gd p 0).rows.length:Int))==(gd q 0).rows.length)=true from beq_iff_eq.2 (by omega)]
  show some (bo,_)=some (bo,some (1,[D.b (alikeS (fun r s=>eqLetter (sub r 0 14) (sub s 0 14)) (gd p 0) (gd q 0))]))
  cases alikeS (fun r s=>eqLetter (sub r 0 14) (sub s 0 14)) (gd p 0) (gd q 0) <;> rfl
 ·rw [show ((((gd p 0).rows.length:Int))==(gd q 0).rows.length)=false from beq_eq_false_iff_ne.2 (by omega)]
  show some (bo,_)=some (bo,some (1,[D.b (alikeS (fun r s=>eqLetter (sub r 0 14) (sub s 0 14)) (gd p 0) (gd q 0))]))
  rw [show alikeS (fun r s=>eqLetter (sub r 0 14) (sub s 0 14)) (gd p 0) (gd q 0)=false from by simp [alikeS,hl]]
  rfl
theorem eqLetterS_refl (z:D):eqLetterS z z=true:=alikeS_refl (fun r=>by exact eqLetter_refl _) z
end Go.Proofs.YtecefnhhlaolmaaGreat
namespace Go.Proofs.YtecefnhhlaolmaaGreat
set_option maxRecDepth 4096
def rITown:List S:= [si,.sl 62,si,si,si,si,si,si,.sl 131,.sl 53,.sl 138,.sl 3,.sl 59,.sl 88,.sl 91]
def eqTown (p q:List D):Bool:=(eqAtlas (sub p 0 9) (sub q 0 9))&&((eqShardS (gd p 9) (gd q 9))&&((eqCoord (sub p 10 2) (sub q 10 2))&&((eqClientS (gd p 12) (gd q 12))&&((eqLetterS (gd p 13) (gd q 13))&&((eqEventS (gd p 14) (gd q 14))&&(true))))))
theorem eqTown_ev (p q:List D) (N:Nat):evFn Tryz.prog (find [eqAtlasE,eqShardSE,eqCoordE,eqClientSE,eqLetterSE,eqEventSE]) N [0,1,2,3,4,10,16,22,28,34,40] Tryz.f8 rb [⟨ag rITown,p⟩,⟨ag rITown,q⟩]=some (bo,bif !(eqAtlas (sub p 0 9) (sub q 0 9)) then ob false else bif !(eqShardS (gd p 9) (gd q 9)) then ob false else bif !(eqCoord (sub p 10 2) (sub q 10 2)) then ob false else bif !(eqClientS (gd p 12) (gd q 12)) then ob false else bif !(eqLetterS (gd p 13) (gd q 13)) then ob false else bif !(eqEventS (gd p 14) (gd q 14)) then ob false else ob true):=by kernel_rfl
def eqTownE:Ent:=(8,e2 (ag rITown) (ag rITown) fun p q=>(⟨rb,[.b (eqTown p q)]⟩,true))
theorem eqTown_ok:EntOk Tryz.prog eqTownE:=e2_ok fun p q _=>evFn_sound (N:=0) (ks:= [0,1,2,3,4,10,16,22,28,34,40]) (key:=bo) (find_ok (fC ⟨eqAtlas_ok,fC ⟨eqShardS_ok,fC ⟨eqCoord_ok,fC ⟨eqClientS_ok,fC ⟨eqLetterS_ok,fC ⟨eqEventS_ok,fN⟩⟩⟩⟩⟩⟩)) (enters Tryz.func8) Tryz.func8 fun _=>by
 rw [eqTown_ev]
 simp only [ne_step]
 rfl
theorem eqTown_refl (p:List D):eqTown p p=true:=by
 simp [eqTown,eqAtlas_refl,eqShardS_refl,eqCoord_refl,eqClientS_refl,eqLetterS_refl,eqEventS_refl]
end Go.Proofs.YtecefnhhlaolmaaGreat
namespace Go.Proofs.YtecefnhhlaolmaaGreat
set_option maxRecDepth 4096
abbrev i_isTxT:FuncId→List T→Option (T × Bool):=find [i_fromE]
theorem i_isTxT_ok:CallOk Tryz.prog i_isTxT:=find_ok (fC ⟨i_from_ok,fN⟩)
abbrev i_isTxK:List Nat:= [0,2]
theorem i_isTx_ev (N:Nat) (p:List D):evFn Tryz.prog i_isTxT N i_isTxK Tryz.f165 rb [⟨ri,p⟩]=some (bo,
 ob (inB (gd p 0).int 1 60)):=by kernel_rfl
def i_isTxE:Ent:=(165,e1 ri fun p=>(⟨rb,[.b (inB (gd p 0).int 1 60)]⟩,true))
theorem i_isTx_ok:EntOk Tryz.prog i_isTxE:=e1_ok fun p h=>evFn_sound (N:=0) (ks:=i_isTxK) (key:=bo) i_isTxT_ok (enters Tryz.func165) Tryz.func165 fun hw=>by
 rw [i_isTx_ev]
 skip
abbrev s_l12TxT:FuncId→List T→Option (T × Bool):=find [s_l1InE]
theorem s_l12TxT_ok:CallOk Tryz.prog s_l12TxT:=find_ok (fC ⟨s_l1In_ok,fN⟩)
abbrev s_l12TxK:List Nat:= [0,2]
theorem s_l12Tx_ev (N:Nat) (p:List D):evFn Tryz.prog s_l12TxT N s_l12TxK Tryz.f121 rb [⟨ri,p⟩]=some (bo,
 ob (inB (gd p 0).int 1 60)):=by kernel_rfl
def s_l12TxE:Ent:=(121,e1 ri fun p=>(⟨rb,[.b (inB (gd p 0).int 1 60)]⟩,true))
theorem s_l12Tx_ok:EntOk Tryz.prog s_l12TxE:=e1_ok fun p h=>evFn_sound (N:=0) (ks:=s_l12TxK) (key:=bo) s_l12TxT_ok (enters Tryz.func121) Tryz.func121 fun hw=>by
 rw [s_l12Tx_ev]
 skip
abbrev i_isModeT:FuncId→List T→Option (T × Bool):=find []
theorem i_isModeT_ok:CallOk Tryz.prog i_isModeT:=find_ok (fN)
abbrev i_isModeK:List Nat:= [0,2]
theorem i_isMode_ev (N:Nat) (p:List D):evFn Tryz.prog i_isModeT N i_isModeK Tryz.f185 rb [⟨ri,p⟩]=some (bo,
 bif (gd p 0).int==1 then ob true
 else ob ((gd p 0).int==2)):=by kernel_rfl
def i_isModeF (p:List D):Bool:=
 bif (gd p 0).int==1 then true
 else (gd p 0).int==2
def i_isModeE:Ent:=(185,e1 ri fun p=>(⟨rb,[.b (i_isModeF [gd p 0])]⟩,true))
theorem i_isMode_ok:EntOk Tryz.prog i_isModeE:=e1_ok fun p h=>evFn_sound (N:=0) (ks:=i_isModeK) (key:=bo) i_isModeT_ok (enters Tryz.func185) Tryz.func185 fun hw=>by
 rw [i_isMode_ev]
 try simp only [cond_ob,cond_oi,cond_os]
 rfl
abbrev s_l12ModeT:FuncId→List T→Option (T × Bool):=find []
theorem s_l12ModeT_ok:CallOk Tryz.prog s_l12ModeT:=find_ok (fN)
abbrev s_l12ModeK:List Nat:= [0,2]
theorem s_l12Mode_ev (N:Nat) (p:List D):evFn Tryz.prog s_l12ModeT N s_l12ModeK Tryz.f176 rb [⟨ri,p⟩]=some (bo,
 bif (gd p 0).int==1 then ob true
 else ob ((gd p 0).int==2)):=by kernel_rfl
def s_l12ModeF (p:List D):Bool:=
 bif (gd p 0).int==1 then true
 else (gd p 0).int==2
def s_l12ModeE:Ent:=(176,e1 ri fun p=>(⟨rb,[.b (s_l12ModeF [gd p 0])]⟩,true))
theorem s_l12Mode_ok:EntOk Tryz.prog s_l12ModeE:=e1_ok fun p h=>evFn_sound (N:=0) (ks:=s_l12ModeK) (key:=bo) s_l12ModeT_ok (enters Tryz.func176) Tryz.func176 fun hw=>by
 rw [s_l12Mode_ev]
 try simp only [cond_ob,cond_oi,cond_os]
 rfl
abbrev i_oneT:FuncId→List T→Option (T × Bool):=find []
theorem i_oneT_ok:CallOk Tryz.prog i_oneT:=find_ok (fN)
abbrev i_oneK:List Nat:= [0,2]
theorem i_one_ev (N:Nat) (p:List D):evFn Tryz.prog i_oneT N i_oneK Tryz.f134 (ag rIRange) [⟨ri,p⟩]=some (bo,
 some (1,[gd p 0,.i (w64 ((gd p 0).int+1))])):=by kernel_rfl
def i_oneE:Ent:=(134,e1 ri fun p=>(⟨ag rIRange,[(gd p 0),.i (w64 ((gd p 0).int+1))]⟩,true))
theorem i_one_ok:EntOk Tryz.prog i_oneE:=e1_ok fun p h=>evFn_sound (N:=0) (ks:=i_oneK) (key:=bo) i_oneT_ok (enters Tryz.func134) Tryz.func134 fun hw=>by
 rw [i_one_ev]
 skip
abbrev s_l10OneT:FuncId→List T→Option (T × Bool):=find []
theorem s_l10OneT_ok:CallOk Tryz.prog s_l10OneT:=find_ok (fN)
abbrev s_l10OneK:List Nat:= [0,2]
theorem s_l10One_ev (N:Nat) (p:List D):evFn Tryz.prog s_l10OneT N s_l10OneK Tryz.f107 (ag rIRange) [⟨ri,p⟩]=some (bo,
 some (1,[gd p 0,.i (w64 ((gd p 0).int+1))])):=by kernel_rfl
def s_l10OneE:Ent:=(107,e1 ri fun p=>(⟨ag rIRange,[(gd p 0),.i (w64 ((gd p 0).int+1))]⟩,true))
theorem s_l10One_ok:EntOk Tryz.prog s_l10OneE:=e1_ok fun p h=>evFn_sound (N:=0) (ks:=s_l10OneK) (key:=bo) s_l10OneT_ok (enters Tryz.func107) Tryz.func107 fun hw=>by
 rw [s_l10One_ev]
 skip
abbrev i_LkeysT:FuncId→List T→Option (T × Bool):=find []
theorem i_LkeysT_ok:CallOk Tryz.prog i_LkeysT:=find_ok (fN)
abbrev i_LkeysK:List Nat:= [0,1,2]
theorem i_Lkeys_ev (N:Nat) (p:List D):evFn Tryz.prog i_LkeysT N i_LkeysK Tryz.f138 (ag rIRange) [⟨ag rILock,p⟩]=some (bo,
 some (1,sub p 1 2)):=by kernel_rfl
def i_LkeysE:Ent:=(138,e1 (ag rILock) fun p=>(⟨ag rIRange,[(gd p 1),(gd p 2)]⟩,true))
theorem i_Lkeys_ok:EntOk Tryz.prog i_LkeysE:=e1_ok fun p h=>evFn_sound (N:=0) (ks:=i_LkeysK) (key:=bo) i_LkeysT_ok (enters Tryz.func138) Tryz.func138 fun hw=>by
 rw [i_Lkeys_ev]
 rfl
abbrev i_SkeysT:FuncId→List T→Option (T × Bool):=find []
theorem i_SkeysT_ok:CallOk Tryz.prog i_SkeysT:=find_ok (fN)
abbrev i_SkeysK:List Nat:= [0,1,2]
theorem i_Skeys_ev (N:Nat) (p:List D):evFn Tryz.prog i_SkeysT N i_SkeysK Tryz.f202 (ag rIRange) [⟨ag rISeen,p⟩]=some (bo,
 some (1,sub p 1 2)):=by kernel_rfl
def i_SkeysE:Ent:=(202,e1 (ag rISeen) fun p=>(⟨ag rIRange,[(gd p 1),(gd p 2)]⟩,true))
theorem i_Skeys_ok:EntOk Tryz.prog i_SkeysE:=e1_ok fun p h=>evFn_sound (N:=0) (ks:=i_SkeysK) (key:=bo) i_SkeysT_ok (enters Tryz.func202) Tryz.func202 fun hw=>by
 rw [i_Skeys_ev]
 rfl
abbrev i_MkeysT:FuncId→List T→Option (T × Bool):=find []
theorem i_MkeysT_ok:CallOk Tryz.prog i_MkeysT:=find_ok (fN)
abbrev i_MkeysK:List Nat:= [0,1,2]
theorem i_Mkeys_ev (N:Nat) (p:List D):evFn Tryz.prog i_MkeysT N i_MkeysK Tryz.f181 (ag rIRange) [⟨ag rIMove,p⟩]=some (bo,
 some (1,sub p 2 2)):=by kernel_rfl
def i_MkeysE:Ent:=(181,e1 (ag rIMove) fun p=>(⟨ag rIRange,[(gd p 2),(gd p 3)]⟩,true))
theorem i_Mkeys_ok:EntOk Tryz.prog i_MkeysE:=e1_ok fun p h=>evFn_sound (N:=0) (ks:=i_MkeysK) (key:=bo) i_MkeysT_ok (enters Tryz.func181) Tryz.func181 fun hw=>by
 rw [i_Mkeys_ev]
 rfl
abbrev s_l12RangeT:FuncId→List T→Option (T × Bool):=find []
theorem s_l12RangeT_ok:CallOk Tryz.prog s_l12RangeT:=find_ok (fN)
abbrev s_l12RangeK:List Nat:= [0,1,2]
theorem s_l12Range_ev (N:Nat) (p:List D):evFn Tryz.prog s_l12RangeT N s_l12RangeK Tryz.f108 (ag rIRange) [⟨ag rILock,p⟩]=some (bo,
 some (1,sub p 1 2)):=by kernel_rfl
def s_l12RangeE:Ent:=(108,e1 (ag rILock) fun p=>(⟨ag rIRange,[(gd p 1),(gd p 2)]⟩,true))
theorem s_l12Range_ok:EntOk Tryz.prog s_l12RangeE:=e1_ok fun p h=>evFn_sound (N:=0) (ks:=s_l12RangeK) (key:=bo) s_l12RangeT_ok (enters Tryz.func108) Tryz.func108 fun hw=>by
 rw [s_l12Range_ev]
 rfl
abbrev i_meetsT:FuncId→List T→Option (T × Bool):=find []
theorem i_meetsT_ok:CallOk Tryz.prog i_meetsT:=find_ok (fN)
abbrev i_meetsK:List Nat:= [0,1,2,3,4]
theorem i_meets_ev (N:Nat) (p q:List D):evFn Tryz.prog i_meetsT N i_meetsK Tryz.f220 rb [⟨ag rIRange,p⟩,⟨ag rIRange,q⟩]=some (bo,
 bif ltI (gd p 0).int (gd q 1).int then ob (ltI (gd q 0).int (gd p 1).int)
 else ob false):=by kernel_rfl
def i_meetsF (p q:List D):Bool:=
 bif ltI (gd p 0).int (gd q 1).int then ltI (gd q 0).int (gd p 1).int
 else false
def i_meetsE:Ent:=(220,e2 (ag rIRange) (ag rIRange) fun p q=>(⟨rb,[.b (i_meetsF p q)]⟩,true))
theorem i_meets_ok:EntOk Tryz.prog i_meetsE:=e2_ok fun p q h=>evFn_sound (N:=0) (ks:=i_meetsK) (key:=bo) i_meetsT_ok (enters Tryz.func220) Tryz.func220 fun hw=>by
 rw [i_meets_ev]
 try simp only [cond_ob,cond_oi,cond_os]
 rfl
abbrev i_clashT:FuncId→List T→Option (T × Bool):=find [i_LkeysE,i_meetsE]
theorem i_clashT_ok:CallOk Tryz.prog i_clashT:=find_ok (fC ⟨i_Lkeys_ok,fC ⟨i_meets_ok,fN⟩⟩)
abbrev i_clashK:List Nat:= [0,1,2,3,4]
theorem i_clash_ev (N:Nat) (p q:List D):evFn Tryz.prog i_clashT N i_clashK Tryz.f187 rb [⟨ag rILock,p⟩,⟨ag rILock,q⟩]=some (bo,
 bif (gd p 0).int != (gd q 0).int then bif (gd p 3).int==2 then ob (i_meetsF [(gd p 1),(gd p 2)] [(gd q 1),(gd q 2)])
 else bif (gd q 3).int==2 then ob (i_meetsF [(gd p 1),(gd p 2)] [(gd q 1),(gd q 2)])
 else ob false
 else ob false):=by kernel_rfl
def i_clashF (p q:List D):Bool:=
 bif (gd p 0).int != (gd q 0).int then bif (gd p 3).int==2 then i_meetsF [(gd p 1),(gd p 2)] [(gd q 1),(gd q 2)]
 else bif (gd q 3).int==2 then i_meetsF [(gd p 1),(gd p 2)] [(gd q 1),(gd q 2)]
 else false
 else false
def i_clashE:Ent:=(187,e2 (ag rILock) (ag rILock) fun p q=>(⟨rb,[.b (i_clashF p q)]⟩,true))
theorem i_clash_ok:EntOk Tryz.prog i_clashE:=e2_ok fun p q h=>evFn_sound (N:=0) (ks:=i_clashK) (key:=bo) i_clashT_ok (enters Tryz.func187) Tryz.func187 fun hw=>by
 rw [i_clash_ev]
 try simp only [cond_ob,cond_oi,cond_os]
 rfl
abbrev i_RhasT:FuncId→List T→Option (T × Bool):=find [i_fromE]
theorem i_RhasT_ok:CallOk Tryz.prog i_RhasT:=find_ok (fC ⟨i_from_ok,fN⟩)
abbrev i_RhasK:List Nat:= [0,1,2,4]
theorem i_Rhas_ev (N:Nat) (p q:List D):evFn Tryz.prog i_RhasT N i_RhasK Tryz.f219 rb [⟨ag rIRange,p⟩,⟨ri,q⟩]=some (bo,
 ob (inB (gd q 0).int (gd p 0).int (w64 ((gd p 1).int - 1)))):=by kernel_rfl
def i_RhasE:Ent:=(219,e2 (ag rIRange) ri fun p q=>(⟨rb,[.b (inB (gd q 0).int (gd p 0).int (w64 ((gd p 1).int - 1)))]⟩,true))
theorem i_Rhas_ok:EntOk Tryz.prog i_RhasE:=e2_ok fun p q h=>evFn_sound (N:=0) (ks:=i_RhasK) (key:=bo) i_RhasT_ok (enters Tryz.func219) Tryz.func219 fun hw=>by
 rw [i_Rhas_ev]
 skip
abbrev s_l1MaxT:FuncId→List T→Option (T × Bool):=find []
theorem s_l1MaxT_ok:CallOk Tryz.prog s_l1MaxT:=find_ok (fN)
abbrev s_l1MaxK:List Nat:= [0,1,4,7]
theorem s_l1Max_ev (N:Nat) (p q:List D):evFn Tryz.prog s_l1MaxT N s_l1MaxK Tryz.f236 ri [⟨ri,p⟩,⟨ri,q⟩]=some (bo,
 bif ltI (gd q 0).int (gd p 0).int then some (1,[gd p 0])
 else some (1,[gd q 0])):=by kernel_rfl
def maxD (x y:D):D:=bif ltI y.int x.int then x else y
def minD (x y:D):D:=bif ltI x.int y.int then x else y
def s_l1MaxE:Ent:=(236,e2 ri ri fun p q=>(⟨ri,[maxD (gd p 0) (gd q 0)]⟩,true))
theorem s_l1Max_ok:EntOk Tryz.prog s_l1MaxE:=e2_ok fun p q h=>evFn_sound (N:=0) (ks:=s_l1MaxK) (key:=bo) s_l1MaxT_ok (enters Tryz.func236) Tryz.func236 fun hw=>by
 rw [s_l1Max_ev]
 show some (bo,bif ltI (gd q 0).int (gd p 0).int then some (1,[gd p 0]) else some (1,[gd q 0]))=some (bo,some (1,[bif ltI (gd q 0).int (gd p 0).int then gd p 0 else gd q 0]))
 cases ltI (gd q 0).int (gd p 0).int <;> rfl
abbrev s_l1MinT:FuncId→List T→Option (T × Bool):=find []
theorem s_l1MinT_ok:CallOk Tryz.prog s_l1MinT:=find_ok (fN)
abbrev s_l1MinK:List Nat:= [0,1,4,7]
theorem s_l1Min_ev (N:Nat) (p q:List D):evFn Tryz.prog s_l1MinT N s_l1MinK Tryz.f237 ri [⟨ri,p⟩,⟨ri,q⟩]=some (bo,
 bif ltI (gd p 0).int (gd q 0).int then some (1,[gd p 0])
 else some (1,[gd q 0])):=by kernel_rfl
def s_l1MinE:Ent:=(237,e2 ri ri fun p q=>(⟨ri,[minD (gd p 0) (gd q 0)]⟩,true))
theorem s_l1Min_ok:EntOk Tryz.prog s_l1MinE:=e2_ok fun p q h=>evFn_sound (N:=0) (ks:=s_l1MinK) (key:=bo) s_l1MinT_ok (enters Tryz.func237) Tryz.func237 fun hw=>by
 rw [s_l1Min_ev]
 show some (bo,bif ltI (gd p 0).int (gd q 0).int then some (1,[gd p 0]) else some (1,[gd q 0]))=some (bo,some (1,[bif ltI (gd p 0).int (gd q 0).int then gd p 0 else gd q 0]))
 cases ltI (gd p 0).int (gd q 0).int <;> rfl
abbrev s_RangeMeetT:FuncId→List T→Option (T × Bool):=find [s_l1MaxE,s_l1MinE,s_RangeOkE]
theorem s_RangeMeetT_ok:CallOk Tryz.prog s_RangeMeetT:=find_ok (fC ⟨s_l1Max_ok,fC ⟨s_l1Min_ok,fC ⟨s_RangeOk_ok,fN⟩⟩⟩)
abbrev s_RangeMeetK:List Nat:= [0,1,2,3,4,5,6,30]
theorem s_RangeMeet_ev (N:Nat) (p q:List D):evFn Tryz.prog s_RangeMeetT N s_RangeMeetK Tryz.f215 (.tup [.agg [.d si,.d si],.c (.d (.bool))]) [⟨ag rIRange,p⟩,⟨ag rIRange,q⟩]=some (bo,
 nd (sameP [[.i 0],[maxD (gd p 0) (gd q 0),minD (gd p 1) (gd q 1)],[minD (gd p 1) (gd q 1)],[maxD (gd p 0) (gd q 0)],[gd q 1],[.i 0],[gd p 1],[.i 0],[gd q 0],[.i 0],[gd p 0],[.i 0],p,q,[.i 0],[.i 0],[.i 0],[.i 0],[gd p 0,gd p 1],[gd q 0,gd q 1],[.i 0,.i 0],[maxD (gd p 0) (gd q 0),minD (gd p 1) (gd q 1)]] [[.i 0],[maxD (gd p 0) (gd q 0),minD (gd p 1) (gd q 1)],[minD (gd p 1) (gd q 1)],[maxD (gd p 0) (gd q 0)],[gd q 1],[.i 0],[gd p 1],[.i 0],[gd q 0],[.i 0],[gd p 0],[.i 0],p,q,[.i 0],[.i 0],[.i 0],[.i 0],[gd p 0,gd p 1],[gd q 0,gd q 1],[.i 0,.i 0],[maxD (gd p 0) (gd q 0),minD (gd p 1) (gd q 1)]]) (nd (sameP [[.i 0],[maxD (gd p 0) (gd q 0),minD (gd p 1) (gd q 1)],[minD (gd p 1) (gd q 1)],[maxD (gd p 0) (gd q 0)],[gd q 1],[.i 0],[gd p 1],[.i 0],[gd q 0],[.i 0],[gd p 0],[.i 0],p,q,[.i 0],[.i 0],[.i 0],[.i 0],[gd p 0,gd p 1],[gd q 0,gd q 1],[.i 0,.i 0],[maxD (gd p 0) (gd q 0),minD (gd p 1) (gd q 1)]] [[.i 0],[maxD (gd p 0) (gd q 0),minD (gd p 1) (gd q 1)],[minD (gd p 1) (gd q 1)],[maxD (gd p 0) (gd q 0)],[gd q 1],[.i 0],[gd p 1],[.i 0],[gd q 0],[.i 0],[gd p 0],[.i 0],p,q,[.i 0],[.i 0],[.i 0],[.i 0],[gd p 0,gd p 1],[gd q 0,gd q 1],[.i 0,.i 0],[maxD (gd p 0) (gd q 0),minD (gd p 1) (gd q 1)]]) (nd (sameP [[.i 0],[maxD (gd p 0) (gd q 0),minD (gd p 1) (gd q 1)],[minD (gd p 1) (gd q 1)],[maxD (gd p 0) (gd q 0)],[gd q 1],[.i 0],[gd p 1],[.i 0],[gd q 0],[.i 0],[gd p 0],[.i 0],p,q,[.i 0],[.i 0],[.i 0],[.i 0],[gd p 0,gd p 1],[gd q 0,gd q 1],[.i 0,.i 0],[maxD (gd p 0) (gd q 0),minD (gd p 1) (gd q 1)]] [[.i 0],[maxD (gd p 0) (gd q 0),minD (gd p 1) (gd q 1)],[minD (gd p 1) (gd q 1)],[maxD (gd p 0) (gd q 0)],[gd q 1],[.i 0],[gd p 1],[.i 0],[gd q 0],[.i 0],[gd p 0],[.i 0],p,q,[.i 0],[.i 0],[.i 0],[.i 0],[gd p 0,gd p 1],[gd q 0,gd q 1],[.i 0,.i 0],[maxD (gd p 0) (gd q 0),minD (gd p 1) (gd q 1)]]) (bif !(rangeOk (sub p 0 2)) then some (1,[.i 0,.i 0,.b false])
 else bif !(rangeOk (sub q 0 2)) then some (1,[.i 0,.i 0,.b false])
 else bif !(rangeOk [maxD (gd p 0) (gd q 0),minD (gd p 1) (gd q 1)]) then some (1,[.i 0,.i 0,.b false])
 else some (1,[maxD (gd p 0) (gd q 0),minD (gd p 1) (gd q 1),.b true]))))):=by kernel_rfl
def meetR (p q:List D):List D:=bif rangeOk p&&(rangeOk q&&rangeOk [maxD (gd p 0) (gd q 0),minD (gd p 1) (gd q 1)]) then [maxD (gd p 0) (gd q 0),minD (gd p 1) (gd q 1),.b true] else [.i 0,.i 0,.b false]
def meetB (p q:List D):Bool:=rangeOk p&&(rangeOk q&&rangeOk [maxD (gd p 0) (gd q 0),minD (gd p 1) (gd q 1)])
theorem meetR_2 (p q:List D):(gd (meetR p q) 2).bool=meetB p q:=by
 unfold meetR meetB
 cases rangeOk p&&(rangeOk q&&rangeOk [maxD (gd p 0) (gd q 0),minD (gd p 1) (gd q 1)]) <;> rfl
theorem bif_and (a b:Bool):(bif a then b else false)=(a&&b):=by cases a <;> rfl
theorem meetB_of {p q:List D} (hp:rangeOk p=true) (hq:rangeOk q=true):meetB p q=i_meetsF p q:=by
 unfold meetB i_meetsF
 rw [hp,hq,bif_and]
 simp only [rangeOk,Bool.and_eq_true,decide_eq_true_eq] at hp hq
 unfold rangeOk maxD minD ltI
 by_cases h1:(gd q 0).int<(gd p 0).int <;> by_cases h2:(gd p 1).int<(gd q 1).int <;> simp only [h1,h2,decide_true,decide_false,cond_true,cond_false,gd_cons_zero,gd_cons_succ] <;> rw [Bool.eq_iff_iff] <;> simp only [Bool.and_eq_true,decide_eq_true_eq,true_and] <;> omega
def s_RangeMeetE:Ent:=(215,e2 (ag rIRange) (ag rIRange) fun p q=>(⟨.tup [.agg [.d si,.d si],.c (.d (.bool))],sub (meetR p q) 0 3⟩,true))
theorem s_RangeMeet_ok:EntOk Tryz.prog s_RangeMeetE:=e2_ok fun p q h=>evFn_sound (N:=0) (ks:=s_RangeMeetK) (key:=bo) s_RangeMeetT_ok (enters Tryz.func215) Tryz.func215 fun hw=>by
 rw [s_RangeMeet_ev]
 simp only [sameP_self,nd_true]
 rw [show rangeOk (sub p 0 2)=rangeOk p from rfl,show rangeOk (sub q 0 2)=rangeOk q from rfl]
 unfold meetR
 cases rangeOk p <;> cases rangeOk q <;> try rfl
 cases rangeOk [maxD (gd p 0) (gd q 0),minD (gd p 1) (gd q 1)] <;> rfl
abbrev s_l12ClashT:FuncId→List T→Option (T × Bool):=find [s_l12RangeE,s_RangeMeetE]
theorem s_l12ClashT_ok:CallOk Tryz.prog s_l12ClashT:=find_ok (fC ⟨s_l12Range_ok,fC ⟨s_RangeMeet_ok,fN⟩⟩)
abbrev s_l12ClashK:List Nat:= [0,1,2,3,4,6]
theorem s_l12Clash_ev (N:Nat) (p q:List D):evFn Tryz.prog s_l12ClashT N s_l12ClashK Tryz.f177 rb [⟨ag rILock,p⟩,⟨ag rILock,q⟩]=some (bo,
 nd (sameP [[gd (meetR [(gd p 1),(gd p 2)] [(gd q 1),(gd q 2)]) 2],[.i 0],[gd (meetR [(gd p 1),(gd p 2)] [(gd q 1),(gd q 2)]) 2],[gd (meetR [(gd p 1),(gd p 2)] [(gd q 1),(gd q 2)]) 0,gd (meetR [(gd p 1),(gd p 2)] [(gd q 1),(gd q 2)]) 1],[gd (meetR [(gd p 1),(gd p 2)] [(gd q 1),(gd q 2)]) 0,gd (meetR [(gd p 1),(gd p 2)] [(gd q 1),(gd q 2)]) 1,gd (meetR [(gd p 1),(gd p 2)] [(gd q 1),(gd q 2)]) 2],[gd (meetR [(gd p 1),(gd p 2)] [(gd q 1),(gd q 2)]) 0,gd (meetR [(gd p 1),(gd p 2)] [(gd q 1),(gd q 2)]) 1,gd (meetR [(gd p 1),(gd p 2)] [(gd q 1),(gd q 2)]) 2],[(gd q 1),(gd q 2)],[(gd p 1),(gd p 2)],[gd q 0,gd q 1,gd q 2,gd q 3],[gd p 0,gd p 1,gd p 2,gd p 3],p,q,[.i 0],[.i 0],[.i 0],[gd p 0,gd p 1,gd p 2,gd p 3],[gd q 0,gd q 1,gd q 2,gd q 3],[gd (meetR [(gd p 1),(gd p 2)] [(gd q 1),(gd q 2)]) 0,gd (meetR [(gd p 1),(gd p 2)] [(gd q 1),(gd q 2)]) 1]] [[gd (meetR [(gd p 1),(gd p 2)] [(gd q 1),(gd q 2)]) 2],[.i 0],[gd (meetR [(gd p 1),(gd p 2)] [(gd q 1),(gd q 2)]) 2],[gd (meetR [(gd p 1),(gd p 2)] [(gd q 1),(gd q 2)]) 0,gd (meetR [(gd p 1),(gd p 2)] [(gd q 1),(gd q 2)]) 1],[gd (meetR [(gd p 1),(gd p 2)] [(gd q 1),(gd q 2)]) 0,gd (meetR [(gd p 1),(gd p 2)] [(gd q 1),(gd q 2)]) 1,gd (meetR [(gd p 1),(gd p 2)] [(gd q 1),(gd q 2)]) 2],[gd (meetR [(gd p 1),(gd p 2)] [(gd q 1),(gd q 2)]) 0,gd (meetR [(gd p 1),(gd p 2)] [(gd q 1),(gd q 2)]) 1,gd (meetR [(gd p 1),(gd p 2)] [(gd q 1),(gd q 2)]) 2],[(gd q 1),(gd q 2)],[(gd p 1),(gd p 2)],[gd q 0,gd q 1,gd q 2,gd q 3],[gd p 0,gd p 1,gd p 2,gd p 3],p,q,[.i 0],[.i 0],[.i 0],[gd p 0,gd p 1,gd p 2,gd p 3],[gd q 0,gd q 1,gd q 2,gd q 3],[gd (meetR [(gd p 1),(gd p 2)] [(gd q 1),(gd q 2)]) 0,gd (meetR [(gd p 1),(gd p 2)] [(gd q 1),(gd q 2)]) 1]]) (nd (sameP [[gd (meetR [(gd p 1),(gd p 2)] [(gd q 1),(gd q 2)]) 2],[.i 0],[gd (meetR [(gd p 1),(gd p 2)] [(gd q 1),(gd q 2)]) 2],[gd (meetR [(gd p 1),(gd p 2)] [(gd q 1),(gd q 2)]) 0,gd (meetR [(gd p 1),(gd p 2)] [(gd q 1),(gd q 2)]) 1],[gd (meetR [(gd p 1),(gd p 2)] [(gd q 1),(gd q 2)]) 0,gd (meetR [(gd p 1),(gd p 2)] [(gd q 1),(gd q 2)]) 1,gd (meetR [(gd p 1),(gd p 2)] [(gd q 1),(gd q 2)]) 2],[gd (meetR [(gd p 1),(gd p 2)] [(gd q 1),(gd q 2)]) 0,gd (meetR [(gd p 1),(gd p 2)] [(gd q 1),(gd q 2)]) 1,gd (meetR [(gd p 1),(gd p 2)] [(gd q 1),(gd q 2)]) 2],[(gd q 1),(gd q 2)],[(gd p 1),(gd p 2)],[gd q 0,gd q 1,gd q 2,gd q 3],[gd p 0,gd p 1,gd p 2,gd p 3],p,q,[.i 0],[.i 0],[.i 0],[gd p 0,gd p 1,gd p 2,gd p 3],[gd q 0,gd q 1,gd q 2,gd q 3],[gd (meetR [(gd p 1),(gd p 2)] [(gd q 1),(gd q 2)]) 0,gd (meetR [(gd p 1),(gd p 2)] [(gd q 1),(gd q 2)]) 1]] [[gd (meetR [(gd p 1),(gd p 2)] [(gd q 1),(gd q 2)]) 2],[.i 0],[gd (meetR [(gd p 1),(gd p 2)] [(gd q 1),(gd q 2)]) 2],[gd (meetR [(gd p 1),(gd p 2)] [(gd q 1),(gd q 2)]) 0,gd (meetR [(gd p 1),(gd p 2)] [(gd q 1),(gd q 2)]) 1],[gd (meetR [(gd p 1),(gd p 2)] [(gd q 1),(gd q 2)]) 0,gd (meetR [(gd p 1),(gd p 2)] [(gd q 1),(gd q 2)]) 1,gd (meetR [(gd p 1),(gd p 2)] [(gd q 1),(gd q 2)]) 2],[gd (meetR [(gd p 1),(gd p 2)] [(gd q 1),(gd q 2)]) 0,gd (meetR [(gd p 1),(gd p 2)] [(gd q 1),(gd q 2)]) 1,gd (meetR [(gd p 1),(gd p 2)] [(gd q 1),(gd q 2)]) 2],[(gd q 1),(gd q 2)],[(gd p 1),(gd p 2)],[gd q 0,gd q 1,gd q 2,gd q 3],[gd p 0,gd p 1,gd p 2,gd p 3],p,q,[.i 0],[.i 0],[.i 0],[gd p 0,gd p 1,gd p 2,gd p 3],[gd q 0,gd q 1,gd q 2,gd q 3],[gd (meetR [(gd p 1),(gd p 2)] [(gd q 1),(gd q 2)]) 0,gd (meetR [(gd p 1),(gd p 2)] [(gd q 1),(gd q 2)]) 1]]) (nd (sameP [[gd (meetR [(gd p 1),(gd p 2)] [(gd q 1),(gd q 2)]) 2],[.i 0],[gd (meetR [(gd p 1),(gd p 2)] [(gd q 1),(gd q 2)]) 2],[gd (meetR [(gd p 1),(gd p 2)] [(gd q 1),(gd q 2)]) 0,gd (meetR [(gd p 1),(gd p 2)] [(gd q 1),(gd q 2)]) 1],[gd (meetR [(gd p 1),(gd p 2)] [(gd q 1),(gd q 2)]) 0,gd (meetR [(gd p 1),(gd p 2)] [(gd q 1),(gd q 2)]) 1,gd (meetR [(gd p 1),(gd p 2)] [(gd q 1),(gd q 2)]) 2],[gd (meetR [(gd p 1),(gd p 2)] [(gd q 1),(gd q 2)]) 0,gd (meetR [(gd p 1),(gd p 2)] [(gd q 1),(gd q 2)]) 1,gd (meetR [(gd p 1),(gd p 2)] [(gd q 1),(gd q 2)]) 2],[(gd q 1),(gd q 2)],[(gd p 1),(gd p 2)],[gd q 0,gd q 1,gd q 2,gd q 3],[gd p 0,gd p 1,gd p 2,gd p 3],p,q,[.i 0],[.i 0],[.i 0],[gd p 0,gd p 1,gd p 2,gd p 3],[gd q 0,gd q 1,gd q 2,gd q 3],[gd (meetR [(gd p 1),(gd p 2)] [(gd q 1),(gd q 2)]) 0,gd (meetR [(gd p 1),(gd p 2)] [(gd q 1),(gd q 2)]) 1]] [[gd (meetR [(gd p 1),(gd p 2)] [(gd q 1),(gd q 2)]) 2],[.i 0],[gd (meetR [(gd p 1),(gd p 2)] [(gd q 1),(gd q 2)]) 2],[gd (meetR [(gd p 1),(gd p 2)] [(gd q 1),(gd q 2)]) 0,gd (meetR [(gd p 1),(gd p 2)] [(gd q 1),(gd q 2)]) 1],[gd (meetR [(gd p 1),(gd p 2)] [(gd q 1),(gd q 2)]) 0,gd (meetR [(gd p 1),(gd p 2)] [(gd q 1),(gd q 2)]) 1,gd (meetR [(gd p 1),(gd p 2)] [(gd q 1),(gd q 2)]) 2],[gd (meetR [(gd p 1),(gd p 2)] [(gd q 1),(gd q 2)]) 0,gd (meetR [(gd p 1),(gd p 2)] [(gd q 1),(gd q 2)]) 1,gd (meetR [(gd p 1),(gd p 2)] [(gd q 1),(gd q 2)]) 2],[(gd q 1),(gd q 2)],[(gd p 1),(gd p 2)],[gd q 0,gd q 1,gd q 2,gd q 3],[gd p 0,gd p 1,gd p 2,gd p 3],p,q,[.i 0],[.i 0],[.i 0],[gd p 0,gd p 1,gd p 2,gd p 3],[gd q 0,gd q 1,gd q 2,gd q 3],[gd (meetR [(gd p 1),(gd p 2)] [(gd q 1),(gd q 2)]) 0,gd (meetR [(gd p 1),(gd p 2)] [(gd q 1),(gd q 2)]) 1]]) (nd (sameP [[gd (meetR [(gd p 1),(gd p 2)] [(gd q 1),(gd q 2)]) 2],[.i 0],[gd (meetR [(gd p 1),(gd p 2)] [(gd q 1),(gd q 2)]) 2],[gd (meetR [(gd p 1),(gd p 2)] [(gd q 1),(gd q 2)]) 0,gd (meetR [(gd p 1),(gd p 2)] [(gd q 1),(gd q 2)]) 1],[gd (meetR [(gd p 1),(gd p 2)] [(gd q 1),(gd q 2)]) 0,gd (meetR [(gd p 1),(gd p 2)] [(gd q 1),(gd q 2)]) 1,gd (meetR [(gd p 1),(gd p 2)] [(gd q 1),(gd q 2)]) 2],[gd (meetR [(gd p 1),(gd p 2)] [(gd q 1),(gd q 2)]) 0,gd (meetR [(gd p 1),(gd p 2)] [(gd q 1),(gd q 2)]) 1,gd (meetR [(gd p 1),(gd p 2)] [(gd q 1),(gd q 2)]) 2],[(gd q 1),(gd q 2)],[(gd p 1),(gd p 2)],[gd q 0,gd q 1,gd q 2,gd q 3],[gd p 0,gd p 1,gd p 2,gd p 3],p,q,[.i 0],[.i 0],[.i 0],[gd p 0,gd p 1,gd p 2,gd p 3],[gd q 0,gd q 1,gd q 2,gd q 3],[gd (meetR [(gd p 1),(gd p 2)] [(gd q 1),(gd q 2)]) 0,gd (meetR [(gd p 1),(gd p 2)] [(gd q 1),(gd q 2)]) 1]] [[gd (meetR [(gd p 1),(gd p 2)] [(gd q 1),(gd q 2)]) 2],[.i 0],[gd (meetR [(gd p 1),(gd p 2)] [(gd q 1),(gd q 2)]) 2],[gd (meetR [(gd p 1),(gd p 2)] [(gd q 1),(gd q 2)]) 0,gd (meetR [(gd p 1),(gd p 2)] [(gd q 1),(gd q 2)]) 1],[gd (meetR [(gd p 1),(gd p 2)] [(gd q 1),(gd q 2)]) 0,gd (meetR [(gd p 1),(gd p 2)] [(gd q 1),(gd q 2)]) 1,gd (meetR [(gd p 1),(gd p 2)] [(gd q 1),(gd q 2)]) 2],[gd (meetR [(gd p 1),(gd p 2)] [(gd q 1),(gd q 2)]) 0,gd (meetR [(gd p 1),(gd p 2)] [(gd q 1),(gd q 2)]) 1,gd (meetR [(gd p 1),(gd p 2)] [(gd q 1),(gd q 2)]) 2],[(gd q 1),(gd q 2)],[(gd p 1),(gd p 2)],[gd q 0,gd q 1,gd q 2,gd q 3],[gd p 0,gd p 1,gd p 2,gd p 3],p,q,[.i 0],[.i 0],[.i 0],[gd p 0,gd p 1,gd p 2,gd p 3],[gd q 0,gd q 1,gd q 2,gd q 3],[gd (meetR [(gd p 1),(gd p 2)] [(gd q 1),(gd q 2)]) 0,gd (meetR [(gd p 1),(gd p 2)] [(gd q 1),(gd q 2)]) 1]]) (nd (sameP [[gd (meetR [(gd p 1),(gd p 2)] [(gd q 1),(gd q 2)]) 2],[.i 0],[gd (meetR [(gd p 1),(gd p 2)] [(gd q 1),(gd q 2)]) 2],[gd (meetR [(gd p 1),(gd p 2)] [(gd q 1),(gd q 2)]) 0,gd (meetR [(gd p 1),(gd p 2)] [(gd q 1),(gd q 2)]) 1],[gd (meetR [(gd p 1),(gd p 2)] [(gd q 1),(gd q 2)]) 0,gd (meetR [(gd p 1),(gd p 2)] [(gd q 1),(gd q 2)]) 1,gd (meetR [(gd p 1),(gd p 2)] [(gd q 1),(gd q 2)]) 2],[gd (meetR [(gd p 1),(gd p 2)] [(gd q 1),(gd q 2)]) 0,gd (meetR [(gd p 1),(gd p 2)] [(gd q 1),(gd q 2)]) 1,gd (meetR [(gd p 1),(gd p 2)] [(gd q 1),(gd q 2)]) 2],[(gd q 1),(gd q 2)],[(gd p 1),(gd p 2)],[gd q 0,gd q 1,gd q 2,gd q 3],[gd p 0,gd p 1,gd p 2,gd p 3],p,q,[.i 0],[.i 0],[.i 0],[gd p 0,gd p 1,gd p 2,gd p 3],[gd q 0,gd q 1,gd q 2,gd q 3],[gd (meetR [(gd p 1),(gd p 2)] [(gd q 1),(gd q 2)]) 0,gd (meetR [(gd p 1),(gd p 2)] [(gd q 1),(gd q 2)]) 1]] [[gd (meetR [(gd p 1),(gd p 2)] [(gd q 1),(gd q 2)]) 2],[.i 0],[gd (meetR [(gd p 1),(gd p 2)] [(gd q 1),(gd q 2)]) 2],[gd (meetR [(gd p 1),(gd p 2)] [(gd q 1),(gd q 2)]) 0,gd (meetR [(gd p 1),(gd p 2)] [(gd q 1),(gd q 2)]) 1],[gd (meetR [(gd p 1),(gd p 2)] [(gd q 1),(gd q 2)]) 0,gd (meetR [(gd p 1),(gd p 2)] [(gd q 1),(gd q 2)]) 1,gd (meetR [(gd p 1),(gd p 2)] [(gd q 1),(gd q 2)]) 2],[gd (meetR [(gd p 1),(gd p 2)] [(gd q 1),(gd q 2)]) 0,gd (meetR [(gd p 1),(gd p 2)] [(gd q 1),(gd q 2)]) 1,gd (meetR [(gd p 1),(gd p 2)] [(gd q 1),(gd q 2)]) 2],[(gd q 1),(gd q 2)],[(gd p 1),(gd p 2)],[gd q 0,gd q 1,gd q 2,gd q 3],[gd p 0,gd p 1,gd p 2,gd p 3],p,q,[.i 0],[.i 0],[.i 0],[gd p 0,gd p 1,gd p 2,gd p 3],[gd q 0,gd q 1,gd q 2,gd q 3],[gd (meetR [(gd p 1),(gd p 2)] [(gd q 1),(gd q 2)]) 0,gd (meetR [(gd p 1),(gd p 2)] [(gd q 1),(gd q 2)]) 1]]) (nd (sameP [[gd (meetR [(gd p 1),(gd p 2)] [(gd q 1),(gd q 2)]) 2],[.i 0],[gd (meetR [(gd p 1),(gd p 2)] [(gd q 1),(gd q 2)]) 2],[gd (meetR [(gd p 1),(gd p 2)] [(gd q 1),(gd q 2)]) 0,gd (meetR [(gd p 1),(gd p 2)] [(gd q 1),(gd q 2)]) 1],[gd (meetR [(gd p 1),(gd p 2)] [(gd q 1),(gd q 2)]) 0,gd (meetR [(gd p 1),(gd p 2)] [(gd q 1),(gd q 2)]) 1,gd (meetR [(gd p 1),(gd p 2)] [(gd q 1),(gd q 2)]) 2],[gd (meetR [(gd p 1),(gd p 2)] [(gd q 1),(gd q 2)]) 0,gd (meetR [(gd p 1),(gd p 2)] [(gd q 1),(gd q 2)]) 1,gd (meetR [(gd p 1),(gd p 2)] [(gd q 1),(gd q 2)]) 2],[(gd q 1),(gd q 2)],[(gd p 1),(gd p 2)],[gd q 0,gd q 1,gd q 2,gd q 3],[gd p 0,gd p 1,gd p 2,gd p 3],p,q,[.i 0],[.i 0],[.i 0],[gd p 0,gd p 1,gd p 2,gd p 3],[gd q 0,gd q 1,gd q 2,gd q 3],[gd (meetR [(gd p 1),(gd p 2)] [(gd q 1),(gd q 2)]) 0,gd (meetR [(gd p 1),(gd p 2)] [(gd q 1),(gd q 2)]) 1]] [[gd (meetR [(gd p 1),(gd p 2)] [(gd q 1),(gd q 2)]) 2],[.i 0],[gd (meetR [(gd p 1),(gd p 2)] [(gd q 1),(gd q 2)]) 2],[gd (meetR [(gd p 1),(gd p 2)] [(gd q 1),(gd q 2)]) 0,gd (meetR [(gd p 1),(gd p 2)] [(gd q 1),(gd q 2)]) 1],[gd (meetR [(gd p 1),(gd p 2)] [(gd q 1),(gd q 2)]) 0,gd (meetR [(gd p 1),(gd p 2)] [(gd q 1),(gd q 2)]) 1,gd (meetR [(gd p 1),(gd p 2)] [(gd q 1),(gd q 2)]) 2],[gd (meetR [(gd p 1),(gd p 2)] [(gd q 1),(gd q 2)]) 0,gd (meetR [(gd p 1),(gd p 2)] [(gd q 1),(gd q 2)]) 1,gd (meetR [(gd p 1),(gd p 2)] [(gd q 1),(gd q 2)]) 2],[(gd q 1),(gd q 2)],[(gd p 1),(gd p 2)],[gd q 0,gd q 1,gd q 2,gd q 3],[gd p 0,gd p 1,gd p 2,gd p 3],p,q,[.i 0],[.i 0],[.i 0],[gd p 0,gd p 1,gd p 2,gd p 3],[gd q 0,gd q 1,gd q 2,gd q 3],[gd (meetR [(gd p 1),(gd p 2)] [(gd q 1),(gd q 2)]) 0,gd (meetR [(gd p 1),(gd p 2)] [(gd q 1),(gd q 2)]) 1]]) (nd (sameP [[gd (meetR [(gd p 1),(gd p 2)] [(gd q 1),(gd q 2)]) 2],[.i 0],[gd (meetR [(gd p 1),(gd p 2)] [(gd q 1),(gd q 2)]) 2],[gd (meetR [(gd p 1),(gd p 2)] [(gd q 1),(gd q 2)]) 0,gd (meetR [(gd p 1),(gd p 2)] [(gd q 1),(gd q 2)]) 1],[gd (meetR [(gd p 1),(gd p 2)] [(gd q 1),(gd q 2)]) 0,gd (meetR [(gd p 1),(gd p 2)] [(gd q 1),(gd q 2)]) 1,gd (meetR [(gd p 1),(gd p 2)] [(gd q 1),(gd q 2)]) 2],[gd (meetR [(gd p 1),(gd p 2)] [(gd q 1),(gd q 2)]) 0,gd (meetR [(gd p 1),(gd p 2)] [(gd q 1),(gd q 2)]) 1,gd (meetR [(gd p 1),(gd p 2)] [(gd q 1),(gd q 2)]) 2],[(gd q 1),(gd q 2)],[(gd p 1),(gd p 2)],[gd q 0,gd q 1,gd q 2,gd q 3],[gd p 0,gd p 1,gd p 2,gd p 3],p,q,[.i 0],[.i 0],[.i 0],[gd p 0,gd p 1,gd p 2,gd p 3],[gd q 0,gd q 1,gd q 2,gd q 3],[gd (meetR [(gd p 1),(gd p 2)] [(gd q 1),(gd q 2)]) 0,gd (meetR [(gd p 1),(gd p 2)] [(gd q 1),(gd q 2)]) 1]] [[gd (meetR [(gd p 1),(gd p 2)] [(gd q 1),(gd q 2)]) 2],[.i 0],[gd (meetR [(gd p 1),(gd p 2)] [(gd q 1),(gd q 2)]) 2],[gd (meetR [(gd p 1),(gd p 2)] [(gd q 1),(gd q 2)]) 0,gd (meetR [(gd p 1),(gd p 2)] [(gd q 1),(gd q 2)]) 1],[gd (meetR [(gd p 1),(gd p 2)] [(gd q 1),(gd q 2)]) 0,gd (meetR [(gd p 1),(gd p 2)] [(gd q 1),(gd q 2)]) 1,gd (meetR [(gd p 1),(gd p 2)] [(gd q 1),(gd q 2)]) 2],[gd (meetR [(gd p 1),(gd p 2)] [(gd q 1),(gd q 2)]) 0,gd (meetR [(gd p 1),(gd p 2)] [(gd q 1),(gd q 2)]) 1,gd (meetR [(gd p 1),(gd p 2)] [(gd q 1),(gd q 2)]) 2],[(gd q 1),(gd q 2)],[(gd p 1),(gd p 2)],[gd q 0,gd q 1,gd q 2,gd q 3],[gd p 0,gd p 1,gd p 2,gd p 3],p,q,[.i 0],[.i 0],[.i 0],[gd p 0,gd p 1,gd p 2,gd p 3],[gd q 0,gd q 1,gd q 2,gd q 3],[gd (meetR [(gd p 1),(gd p 2)] [(gd q 1),(gd q 2)]) 0,gd (meetR [(gd p 1),(gd p 2)] [(gd q 1),(gd q 2)]) 1]]) (nd (sameP [[gd (meetR [(gd p 1),(gd p 2)] [(gd q 1),(gd q 2)]) 2],[.i 0],[gd (meetR [(gd p 1),(gd p 2)] [(gd q 1),(gd q 2)]) 2],[gd (meetR [(gd p 1),(gd p 2)] [(gd q 1),(gd q 2)]) 0,gd (meetR [(gd p 1),(gd p 2)] [(gd q 1),(gd q 2)]) 1],[gd (meetR [(gd p 1),(gd p 2)] [(gd q 1),(gd q 2)]) 0,gd (meetR [(gd p 1),(gd p 2)] [(gd q 1),(gd q 2)]) 1,gd (meetR [(gd p 1),(gd p 2)] [(gd q 1),(gd q 2)]) 2],[gd (meetR [(gd p 1),(gd p 2)] [(gd q 1),(gd q 2)]) 0,gd (meetR [(gd p 1),(gd p 2)] [(gd q 1),(gd q 2)]) 1,gd (meetR [(gd p 1),(gd p 2)] [(gd q 1),(gd q 2)]) 2],[(gd q 1),(gd q 2)],[(gd p 1),(gd p 2)],[gd q 0,gd q 1,gd q 2,gd q 3],[gd p 0,gd p 1,gd p 2,gd p 3],p,q,[.i 0],[.i 0],[.i 0],[gd p 0,gd p 1,gd p 2,gd p 3],[gd q 0,gd q 1,gd q 2,gd q 3],[gd (meetR [(gd p 1),(gd p 2)] [(gd q 1),(gd q 2)]) 0,gd (meetR [(gd p 1),(gd p 2)] [(gd q 1),(gd q 2)]) 1]] [[gd (meetR [(gd p 1),(gd p 2)] [(gd q 1),(gd q 2)]) 2],[.i 0],[gd (meetR [(gd p 1),(gd p 2)] [(gd q 1),(gd q 2)]) 2],[gd (meetR [(gd p 1),(gd p 2)] [(gd q 1),(gd q 2)]) 0,gd (meetR [(gd p 1),(gd p 2)] [(gd q 1),(gd q 2)]) 1],[gd (meetR [(gd p 1),(gd p 2)] [(gd q 1),(gd q 2)]) 0,gd (meetR [(gd p 1),(gd p 2)] [(gd q 1),(gd q 2)]) 1,gd (meetR [(gd p 1),(gd p 2)] [(gd q 1),(gd q 2)]) 2],[gd (meetR [(gd p 1),(gd p 2)] [(gd q 1),(gd q 2)]) 0,gd (meetR [(gd p 1),(gd p 2)] [(gd q 1),(gd q 2)]) 1,gd (meetR [(gd p 1),(gd p 2)] [(gd q 1),(gd q 2)]) 2],[(gd q 1),(gd q 2)],[(gd p 1),(gd p 2)],[gd q 0,gd q 1,gd q 2,gd q 3],[gd p 0,gd p 1,gd p 2,gd p 3],p,q,[.i 0],[.i 0],[.i 0],[gd p 0,gd p 1,gd p 2,gd p 3],[gd q 0,gd q 1,gd q 2,gd q 3],[gd (meetR [(gd p 1),(gd p 2)] [(gd q 1),(gd q 2)]) 0,gd (meetR [(gd p 1),(gd p 2)] [(gd q 1),(gd q 2)]) 1]]) (bif (gd (meetR [(gd p 1),(gd p 2)] [(gd q 1),(gd q 2)]) 2).bool then bif (gd p 0).int != (gd q 0).int then bif (gd p 3).int==2 then ob true
 else ob ((gd q 3).int==2)
 else ob false
 else ob false))))))))):=by kernel_rfl
def clashS (p q:List D):Bool:=meetB [gd p 1,gd p 2] [gd q 1,gd q 2]&&(!((gd p 0).int==(gd q 0).int)&&(((gd p 3).int==2)||((gd q 3).int==2)))
theorem clashS_of {p q:List D} (hp:rangeOk [gd p 1,gd p 2]=true) (hq:rangeOk [gd q 1,gd q 2]=true):clashS p q=i_clashF p q:=by
 unfold clashS i_clashF
 rw [meetB_of hp hq,bne_not]
 cases (gd p 0).int==(gd q 0).int <;> cases (gd p 3).int==2 <;> cases (gd q 3).int==2 <;> cases i_meetsF [gd p 1,gd p 2] [gd q 1,gd q 2] <;> rfl
def s_l12ClashE:Ent:=(177,e2 (ag rILock) (ag rILock) fun p q=>(⟨rb,[.b (clashS p q)]⟩,true))
theorem s_l12Clash_ok:EntOk Tryz.prog s_l12ClashE:=e2_ok fun p q h=>evFn_sound (N:=0) (ks:=s_l12ClashK) (key:=bo) s_l12ClashT_ok (enters Tryz.func177) Tryz.func177 fun hw=>by
 rw [s_l12Clash_ev]
 simp only [sameP_self,nd_true,meetR_2,bne_not]
 unfold clashS
 cases meetB [gd p 1,gd p 2] [gd q 1,gd q 2] <;> cases (gd p 0).int==(gd q 0).int <;> cases (gd p 3).int==2 <;> cases (gd q 3).int==2 <;> rfl
abbrev s_RangeInT:FuncId→List T→Option (T × Bool):=find [s_RangeOkE]
theorem s_RangeInT_ok:CallOk Tryz.prog s_RangeInT:=find_ok (fC ⟨s_RangeOk_ok,fN⟩)
abbrev s_RangeInK:List Nat:= [0,1,2,3,4]
theorem s_RangeIn_ev (N:Nat) (p q:List D):evFn Tryz.prog s_RangeInT N s_RangeInK Tryz.f216 rb [⟨ag rIRange,p⟩,⟨ag rIRange,q⟩]=some (bo,
 bif rangeOk (sub p 0 2) then bif rangeOk (sub q 0 2) then bif leI (gd q 0).int (gd p 0).int then ob (leI (gd p 1).int (gd q 1).int)
 else ob false
 else ob false
 else ob false):=by kernel_rfl
def s_RangeInF (p q:List D):Bool:=
 bif rangeOk (sub p 0 2) then bif rangeOk (sub q 0 2) then bif leI (gd q 0).int (gd p 0).int then leI (gd p 1).int (gd q 1).int
 else false
 else false
 else false
def s_RangeInE:Ent:=(216,e2 (ag rIRange) (ag rIRange) fun p q=>(⟨rb,[.b (s_RangeInF p q)]⟩,true))
theorem s_RangeIn_ok:EntOk Tryz.prog s_RangeInE:=e2_ok fun p q h=>evFn_sound (N:=0) (ks:=s_RangeInK) (key:=bo) s_RangeInT_ok (enters Tryz.func216) Tryz.func216 fun hw=>by
 rw [s_RangeIn_ev]
 try simp only [cond_ob,cond_oi,cond_os]
 rfl
abbrev s_l16RangeOkT:FuncId→List T→Option (T × Bool):=find [s_RangeOkE]
theorem s_l16RangeOkT_ok:CallOk Tryz.prog s_l16RangeOkT:=find_ok (fC ⟨s_RangeOk_ok,fN⟩)
abbrev s_l16RangeOkK:List Nat:= [0,1,4]
theorem s_l16RangeOk_ev (N:Nat) (p q:List D):evFn Tryz.prog s_l16RangeOkT N s_l16RangeOkK Tryz.f117 rb [⟨ri,p⟩,⟨ri,q⟩]=some (bo,
 ob (rangeOk [gd p 0,gd q 0])):=by kernel_rfl
def s_l16RangeOkE:Ent:=(117,e2 ri ri fun p q=>(⟨rb,[.b (rangeOk [(gd p 0),(gd q 0)])]⟩,true))
theorem s_l16RangeOk_ok:EntOk Tryz.prog s_l16RangeOkE:=e2_ok fun p q h=>evFn_sound (N:=0) (ks:=s_l16RangeOkK) (key:=bo) s_l16RangeOkT_ok (enters Tryz.func117) Tryz.func117 fun hw=>by
 rw [s_l16RangeOk_ev]
 skip
abbrev s_l15GroupT:FuncId→List T→Option (T × Bool):=find [s_l1InE]
theorem s_l15GroupT_ok:CallOk Tryz.prog s_l15GroupT:=find_ok (fC ⟨s_l1In_ok,fN⟩)
abbrev s_l15GroupK:List Nat:= [0,2]
theorem s_l15Group_ev (N:Nat) (p:List D):evFn Tryz.prog s_l15GroupT N s_l15GroupK Tryz.f101 rb [⟨ri,p⟩]=some (bo,
 ob (inB (gd p 0).int 0 3)):=by kernel_rfl
def s_l15GroupE:Ent:=(101,e1 ri fun p=>(⟨rb,[.b (inB (gd p 0).int 0 3)]⟩,true))
theorem s_l15Group_ok:EntOk Tryz.prog s_l15GroupE:=e1_ok fun p h=>evFn_sound (N:=0) (ks:=s_l15GroupK) (key:=bo) s_l15GroupT_ok (enters Tryz.func101) Tryz.func101 fun hw=>by
 rw [s_l15Group_ev]
 skip
abbrev s_l4NumT:FuncId→List T→Option (T × Bool):=find [s_l1InE]
theorem s_l4NumT_ok:CallOk Tryz.prog s_l4NumT:=find_ok (fC ⟨s_l1In_ok,fN⟩)
abbrev s_l4NumK:List Nat:= [0,1,2,3,8]
theorem s_l4Num_ev (N:Nat) (p q r s:List D):evFn Tryz.prog s_l4NumT N s_l4NumK Tryz.f115 rb [⟨rb,p⟩,⟨ri,q⟩,⟨ri,r⟩,⟨ri,s⟩]=some (bo,
 bif (gd p 0).bool then bif inB (gd q 0).int (gd r 0).int (gd s 0).int then ob true
 else bif !(gd p 0).bool then ob ((gd q 0).int==0)
 else ob false
 else bif !(gd p 0).bool then ob ((gd q 0).int==0)
 else ob false):=by kernel_rfl
def numOk (h:Bool) (x lo hi:Int):Bool:=bif h then inB x lo hi else x==0
def s_l4NumE:Ent:=(115,e4 rb ri ri ri fun p q r s=>(⟨rb,[.b (numOk (gd p 0).bool (gd q 0).int (gd r 0).int (gd s 0).int)]⟩,true))
theorem s_l4Num_ok:EntOk Tryz.prog s_l4NumE:=e4_ok fun p q r s h=>evFn_sound (N:=0) (ks:=s_l4NumK) (key:=bo) s_l4NumT_ok (enters Tryz.func115) Tryz.func115 fun hw=>by
 rw [s_l4Num_ev]
 unfold numOk
 cases (gd p 0).bool <;> cases inB (gd q 0).int (gd r 0).int (gd s 0).int <;> rfl
abbrev i_hasT:FuncId→List T→Option (T × Bool):=find []
theorem i_hasT_ok:CallOk Tryz.prog i_hasT:=find_ok (fN)
abbrev i_hasK:List Nat:= [0,1,4,5,7,8,9,15]
noncomputable def i_hasL0 (N:Nat) (p q:List D):List D→Out:=loopOf Tryz.prog i_hasT N i_hasK Tryz.f158 rb [⟨sd (.str),p⟩,⟨sd (.int .u8),q⟩] 0
theorem i_hasR0 (N:Nat) (p q:List D) (x0 x1 x2 x3 x4:D):(i_hasL0 N p q) [x0,x1,x2,x3,x4] =
 bif ltI x4.int x3.int then nd (inRange x4.int x0.str.length) (bif ((x0.str.getD x4.int.toNat 0).toNat:Int)==x1.int then ob true
 else nx [x0,x1,x2,x3,.i (w64 (x4.int+1))])
 else ex 0 [x0,x1,x2,x3,x4]:=by kernel_rfl
theorem i_has_ev (N:Nat) (p q:List D):evFn Tryz.prog i_hasT N i_hasK Tryz.f158 rb [⟨sd (.str),p⟩,⟨sd (.int .u8),q⟩]=some (bo,
 (let o0:=iter (i_hasL0 N p q) N [gd p 0,gd q 0,.i 0,.i ((gd p 0).str.length:Int),.i 0]
  nd o0.isSome (bif o0.code==1 then some (1,o0.pay)
  else nd (o0.code==2) (ob false)))):=by kernel_rfl
def hasB (l:List UInt8) (x:Int):Bool:=(List.range l.length).any fun k=>((l.getD k 0).toNat:Int)==x
theorem any_loop {L:List D→Out} (st:Nat→List D) (n:Nat) (C:Nat→Bool) (v:List D) (j:Nat) (h1:∀ k,k<n→L (st k)=some (bif C k then (1,v) else (0,st (k+1)))) (h2:L (st n)=some (j+2,st n)) {N:Nat} (hN:n<N) :
  iter L N (st 0)=some (bif (List.range n).any C then (1,v) else (j+2,st n)):=by
 have e:=for_loop st n (fun k => !C k) v j (fun k hk=>by rw [h1 k hk]; cases C k <;> rfl) h2 hN
 rw [e,not_any]
 cases (List.range n).any C <;> rfl
def i_hasE:Ent:=(158,e2 (sd (.str)) (sd (.int .u8)) fun p q=>(⟨rb,[.b (hasB (gd p 0).str (gd q 0).int)]⟩,leI ((gd p 0).str.length:Int) 100))
theorem i_has_ok:EntOk Tryz.prog i_hasE:=e2_ok fun p q h=>evFn_sound (N:=101) (ks:=i_hasK) (key:=bo) i_hasT_ok (enters Tryz.func158) Tryz.func158 fun hw=>by
 rw [i_has_ev]
 have h:leI ((gd p 0).str.length:Int) 100=true:=h
 simp only [leI,decide_eq_true_eq] at h
 have e:=any_loop (L:=i_hasL0 101 p q) (fun k => [gd p 0,gd q 0,.i 0,.i ((gd p 0).str.length:Int),.i (k:Int)]) (gd p 0).str.length (fun k=>(((gd p 0).str.getD k 0).toNat:Int)==(gd q 0).int) [.b true] 0 (fun k hk=>?_) ?_ (N:=101) (by omega)
 ·simp only [Int.natCast_zero] at e
  rw [e]
  unfold hasB
  cases (List.range (gd p 0).str.length).any (fun k=>(((gd p 0).str.getD k 0).toNat:Int)==(gd q 0).int) <;> rfl
 ·show i_hasL0 _ p q [_,_,_,_,.i (k:Int)]=_
  rw [i_hasR0]
  simp only [int_i,c_lt hk,nd_ix hk,w64_succ hk (show (gd p 0).str.length≤9223372036854775807 from by omega),Int.toNat_natCast]
  cases (((gd p 0).str.getD k 0).toNat:Int)==(gd q 0).int <;> rfl
 ·show i_hasL0 _ p q [_,_,_,.i ((gd p 0).str.length:Int),.i ((gd p 0).str.length:Int)]=_
  rw [i_hasR0]
  simp only [int_i,c_nlt]
abbrev s_l4InT:FuncId→List T→Option (T × Bool):=find []
theorem s_l4InT_ok:CallOk Tryz.prog s_l4InT:=find_ok (fN)
abbrev s_l4InK:List Nat:= [0,1,4,5,9,16]
noncomputable def s_l4InL0 (N:Nat) (p q:List D):List D→Out:=loopOf Tryz.prog s_l4InT N s_l4InK Tryz.f116 rb [⟨sd (.str),p⟩,⟨sd (.int .u8),q⟩] 0
theorem s_l4InR0 (N:Nat) (p q:List D) (x0 x1 x2 x3:D):(s_l4InL0 N p q) [x0,x1,x2,x3] =
 bif ltI x3.int (x0.str.length:Int) then nd (inRange x3.int x0.str.length) (bif ((x0.str.getD x3.int.toNat 0).toNat:Int)==x1.int then ob true
 else nx [x0,x1,x2,.i (w64 (x3.int+1))])
 else ex 0 [x0,x1,x2,x3]:=by kernel_rfl
theorem s_l4In_ev (N:Nat) (p q:List D):evFn Tryz.prog s_l4InT N s_l4InK Tryz.f116 rb [⟨sd (.str),p⟩,⟨sd (.int .u8),q⟩]=some (bo,
 (let o0:=iter (s_l4InL0 N p q) N [gd p 0,gd q 0,.i 0,.i 0]
  nd o0.isSome (bif o0.code==1 then some (1,o0.pay)
  else nd (o0.code==2) (ob false)))):=by kernel_rfl
def s_l4InE:Ent:=(116,e2 (sd (.str)) (sd (.int .u8)) fun p q=>(⟨rb,[.b (hasB (gd p 0).str (gd q 0).int)]⟩,leI ((gd p 0).str.length:Int) 100))
theorem s_l4In_ok:EntOk Tryz.prog s_l4InE:=e2_ok fun p q h=>evFn_sound (N:=101) (ks:=s_l4InK) (key:=bo) s_l4InT_ok (enters Tryz.func116) Tryz.func116 fun hw=>by
 rw [s_l4In_ev]
 have h:leI ((gd p 0).str.length:Int) 100=true:=h
 simp only [leI,decide_eq_true_eq] at h
 have e:=any_loop (L:=s_l4InL0 101 p q) (fun k => [gd p 0,gd q 0,.i 0,.i (k:Int)]) (gd p 0).str.length (fun k=>(((gd p 0).str.getD k 0).toNat:Int)==(gd q 0).int) [.b true] 0 (fun k hk=>?_) ?_ (N:=101) (by omega)
 ·simp only [Int.natCast_zero] at e
  rw [e]
  unfold hasB
  cases (List.range (gd p 0).str.length).any (fun k=>(((gd p 0).str.getD k 0).toNat:Int)==(gd q 0).int) <;> rfl
 ·show s_l4InL0 _ p q [_,_,_,.i (k:Int)]=_
  rw [s_l4InR0]
  simp only [int_i,c_lt hk,nd_ix hk,w64_succ hk (show (gd p 0).str.length≤9223372036854775807 from by omega),Int.toNat_natCast]
  cases (((gd p 0).str.getD k 0).toNat:Int)==(gd q 0).int <;> rfl
 ·show s_l4InL0 _ p q [_,_,_,.i ((gd p 0).str.length:Int)]=_
  rw [s_l4InR0]
  simp only [int_i,c_nlt]
abbrev i_numRightT:FuncId→List T→Option (T × Bool):=find [i_hasE,i_fromE]
theorem i_numRightT_ok:CallOk Tryz.prog i_numRightT:=find_ok (fC ⟨i_has_ok,fC ⟨i_from_ok,fN⟩⟩)
abbrev i_numRightK:List Nat:= [0,1,2,3,4,10,13]
theorem i_numRight_ev (N:Nat) (p q r s t:List D):evFn Tryz.prog i_numRightT N i_numRightK Tryz.f157 rb [⟨sd (.str),p⟩,⟨sd (.int .u8),q⟩,⟨ri,r⟩,⟨ri,s⟩,⟨ri,t⟩]=some (bo,
 nd (leI ((gd p 0).str.length:Int) 100) (bif hasB (gd p 0).str (gd q 0).int then ob (inB (gd r 0).int (gd s 0).int (gd t 0).int)
 else ob ((gd r 0).int==0))):=by kernel_rfl
def i_numRightE:Ent:=(157,e5 (sd (.str)) (sd (.int .u8)) ri ri ri fun p q r s t=>(⟨rb,[.b (numOk (hasB (gd p 0).str (gd q 0).int) (gd r 0).int (gd s 0).int (gd t 0).int)]⟩,leI ((gd p 0).str.length:Int) 100))
theorem i_numRight_ok:EntOk Tryz.prog i_numRightE:=e5_ok fun p q r s t h=>evFn_sound (N:=0) (ks:=i_numRightK) (key:=bo) i_numRightT_ok (enters Tryz.func157) Tryz.func157 fun hw=>by
 rw [i_numRight_ev]
 have h:leI ((gd p 0).str.length:Int) 100=true:=h
 rw [h,nd_true]
 unfold numOk
 cases hasB (gd p 0).str (gd q 0).int <;> rfl
abbrev i_letterHasT:FuncId→List T→Option (T × Bool):=find []
theorem i_letterHasT_ok:CallOk Tryz.prog i_letterHasT:=find_ok (fN)
abbrev i_letterHasK:List Nat:= [0,2,3,4,6,8,10,12,14,16,18,20,23,27,29,31,33]
theorem i_letterHas_ev (N:Nat) (p:List D):evFn Tryz.prog i_letterHasT N i_letterHasK Tryz.f156 (sd (.str)) [⟨ri,p⟩]=some (bo,
 bif (gd p 0).int==1 then some (1,[.s [67,82]])
 else bif (gd p 0).int==2 then some (1,[.s [67,82,84]])
 else bif (gd p 0).int==3 then some (1,[.s [71,67,82,84,107]])
 else bif (gd p 0).int==4 then some (1,[.s [71,67,82,84,107,99,108]])
 else bif (gd p 0).int==5 then some (1,[.s [67,84,83]])
 else bif (gd p 0).int==6 then some (1,[.s [67,84]])
 else bif (gd p 0).int==7 then some (1,[.s [67,84,89]])
 else bif (gd p 0).int==8 then some (1,[.s [71,84,101,87]])
 else bif (gd p 0).int==9 then bif (gd p 0).int==9 then some (1,[.s [71,84,89]])
 else bif (gd p 0).int==11 then bif (gd p 0).int==11 then some (1,[.s [71,78,107]])
 else bif (gd p 0).int==12 then some (1,[.s [78,108]])
 else bif (gd p 0).int==13 then some (1,[.s [71,78,107,108]])
 else bif (gd p 0).int==14 then some (1,[.s [78,89]])
 else bif (gd p 0).int==17 then some (1,[.s [78]])
 else some (1,[.s []])
 else bif (gd p 0).int==15 then bif (gd p 0).int==15 then some (1,[.s [71,78,107]])
 else bif (gd p 0).int==12 then some (1,[.s [78,108]])
 else bif (gd p 0).int==13 then some (1,[.s [71,78,107,108]])
 else bif (gd p 0).int==14 then some (1,[.s [78,89]])
 else bif (gd p 0).int==17 then some (1,[.s [78]])
 else some (1,[.s []])
 else bif (gd p 0).int==16 then some (1,[.s [71,78,107]])
 else bif (gd p 0).int==12 then some (1,[.s [78,108]])
 else bif (gd p 0).int==13 then some (1,[.s [71,78,107,108]])
 else bif (gd p 0).int==14 then some (1,[.s [78,89]])
 else bif (gd p 0).int==17 then some (1,[.s [78]])
 else some (1,[.s []])
 else bif (gd p 0).int==10 then some (1,[.s [71,84,89]])
 else bif (gd p 0).int==11 then bif (gd p 0).int==11 then some (1,[.s [71,78,107]])
 else bif (gd p 0).int==12 then some (1,[.s [78,108]])
 else bif (gd p 0).int==13 then some (1,[.s [71,78,107,108]])
 else bif (gd p 0).int==14 then some (1,[.s [78,89]])
 else bif (gd p 0).int==17 then some (1,[.s [78]])
 else some (1,[.s []])
 else bif (gd p 0).int==15 then bif (gd p 0).int==15 then some (1,[.s [71,78,107]])
 else bif (gd p 0).int==12 then some (1,[.s [78,108]])
 else bif (gd p 0).int==13 then some (1,[.s [71,78,107,108]])
 else bif (gd p 0).int==14 then some (1,[.s [78,89]])
 else bif (gd p 0).int==17 then some (1,[.s [78]])
 else some (1,[.s []])
 else bif (gd p 0).int==16 then some (1,[.s [71,78,107]])
 else bif (gd p 0).int==12 then some (1,[.s [78,108]])
 else bif (gd p 0).int==13 then some (1,[.s [71,78,107,108]])
 else bif (gd p 0).int==14 then some (1,[.s [78,89]])
 else bif (gd p 0).int==17 then some (1,[.s [78]])
 else some (1,[.s []])):=by kernel_rfl
def i_letterHasF (p:List D):List UInt8:=
 bif (gd p 0).int==1 then [67,82]
 else bif (gd p 0).int==2 then [67,82,84]
 else bif (gd p 0).int==3 then [71,67,82,84,107]
 else bif (gd p 0).int==4 then [71,67,82,84,107,99,108]
 else bif (gd p 0).int==5 then [67,84,83]
 else bif (gd p 0).int==6 then [67,84]
 else bif (gd p 0).int==7 then [67,84,89]
 else bif (gd p 0).int==8 then [71,84,101,87]
 else bif (gd p 0).int==9 then bif (gd p 0).int==9 then [71,84,89]
 else bif (gd p 0).int==11 then bif (gd p 0).int==11 then [71,78,107]
 else bif (gd p 0).int==12 then [78,108]
 else bif (gd p 0).int==13 then [71,78,107,108]
 else bif (gd p 0).int==14 then [78,89]
 else bif (gd p 0).int==17 then [78]
 else []
 else bif (gd p 0).int==15 then bif (gd p 0).int==15 then [71,78,107]
 else bif (gd p 0).int==12 then [78,108]
 else bif (gd p 0).int==13 then [71,78,107,108]
 else bif (gd p 0).int==14 then [78,89]
 else bif (gd p 0).int==17 then [78]
 else []
 else bif (gd p 0).int==16 then [71,78,107]
 else bif (gd p 0).int==12 then [78,108]
 else bif (gd p 0).int==13 then [71,78,107,108]
 else bif (gd p 0).int==14 then [78,89]
 else bif (gd p 0).int==17 then [78]
 else []
 else bif (gd p 0).int==10 then [71,84,89]
 else bif (gd p 0).int==11 then bif (gd p 0).int==11 then [71,78,107]
 else bif (gd p 0).int==12 then [78,108]
 else bif (gd p 0).int==13 then [71,78,107,108]
 else bif (gd p 0).int==14 then [78,89]
 else bif (gd p 0).int==17 then [78]
 else []
 else bif (gd p 0).int==15 then bif (gd p 0).int==15 then [71,78,107]
 else bif (gd p 0).int==12 then [78,108]
 else bif (gd p 0).int==13 then [71,78,107,108]
 else bif (gd p 0).int==14 then [78,89]
 else bif (gd p 0).int==17 then [78]
 else []
 else bif (gd p 0).int==16 then [71,78,107]
 else bif (gd p 0).int==12 then [78,108]
 else bif (gd p 0).int==13 then [71,78,107,108]
 else bif (gd p 0).int==14 then [78,89]
 else bif (gd p 0).int==17 then [78]
 else []
def i_letterHasE:Ent:=(156,e1 ri fun p=>(⟨sd (.str),[.s (i_letterHasF [gd p 0])]⟩,true))
theorem i_letterHas_ok:EntOk Tryz.prog i_letterHasE:=e1_ok fun p h=>evFn_sound (N:=0) (ks:=i_letterHasK) (key:=bo) i_letterHasT_ok (enters Tryz.func156) Tryz.func156 fun hw=>by
 rw [i_letterHas_ev]
 try simp only [cond_ob,cond_oi,cond_os]
 rfl
abbrev s_l16HasT:FuncId→List T→Option (T × Bool):=find [s_l1InE]
theorem s_l16HasT_ok:CallOk Tryz.prog s_l16HasT:=find_ok (fC ⟨s_l1In_ok,fN⟩)
abbrev s_l16HasK:List Nat:= [0,2,5]
theorem s_l16Has_ev (N:Nat) (p:List D):evFn Tryz.prog s_l16HasT N s_l16HasK Tryz.f114 (sd (.str)) [⟨ri,p⟩]=some (bo,
 bif !(inB (gd p 0).int 1 17) then some (1,[.s []])
 else nd (inRange (gd p 0).int ([[.s []],[.s [99,113]],[.s [99,113,116]],[.s [103,99,113,116,114]],[.s [103,99,113,116,114,107,67]],[.s [99,116,83]],[.s [99,116]],[.s [99,116,121]],[.s [103,116,82,87]],[.s [103,116,121]],[.s [103,116,121]],[.s [103,110,114]],[.s [110,67]],[.s [103,110,114,67]],[.s [110,121]],[.s [103,110,114]],[.s [103,110,114]],[.s [110]]]:List (List D)).length) (some (1,[gd (([[.s []],[.s [99,113]],[.s [99,113,116]],[.s [103,99,113,116,114]],[.s [103,99,113,116,114,107,67]],[.s [99,116,83]],[.s [99,116]],[.s [99,116,121]],[.s [103,116,82,87]],[.s [103,116,121]],[.s [103,116,121]],[.s [103,110,114]],[.s [110,67]],[.s [103,110,114,67]],[.s [110,121]],[.s [103,110,114]],[.s [103,110,114]],[.s [110]]]:List (List D)).getD (gd p 0).int.toNat []) 0]))):=by kernel_rfl
def lettersD:List (List D):= [[.s []],[.s [99,113]],[.s [99,113,116]],[.s [103,99,113,116,114]],[.s [103,99,113,116,114,107,67]],[.s [99,116,83]],[.s [99,116]],[.s [99,116,121]],[.s [103,116,82,87]],[.s [103,116,121]],[.s [103,116,121]],[.s [103,110,114]],[.s [110,67]],[.s [103,110,114,67]],[.s [110,121]],[.s [103,110,114]],[.s [103,110,114]],[.s [110]]]
def lettersS (k:Int):D:=bif inB k 1 17 then gd (lettersD.getD k.toNat []) 0 else .s []
def s_l16HasE:Ent:=(114,e1 ri fun p=>(⟨sd (.str),[lettersS (gd p 0).int]⟩,true))
theorem s_l16Has_ok:EntOk Tryz.prog s_l16HasE:=e1_ok fun p h=>evFn_sound (N:=0) (ks:=s_l16HasK) (key:=bo) s_l16HasT_ok (enters Tryz.func114) Tryz.func114 fun hw=>by
 rw [s_l16Has_ev]
 show some (bo,bif !inB (gd p 0).int 1 17 then some (1,[.s []]) else nd (inRange (gd p 0).int lettersD.length) (some (1,[gd (lettersD.getD (gd p 0).int.toNat []) 0])))=some (bo,some (1,[lettersS (gd p 0).int]))
 unfold lettersS
 cases hb:inB (gd p 0).int 1 17
 ·rfl
 ·simp only [inB,Bool.and_eq_true,decide_eq_true_eq] at hb
  rw [show inRange (gd p 0).int lettersD.length=true from by
   have h18:lettersD.length=18:=rfl
   simp only [inRange,Bool.and_eq_true,decide_eq_true_eq,h18]; omega]
  rfl
abbrev i_LocksOk_1T:FuncId→List T→Option (T × Bool):=find [i_clashE]
theorem i_LocksOk_1T_ok:CallOk Tryz.prog i_LocksOk_1T:=find_ok (fC ⟨i_clash_ok,fN⟩)
abbrev i_LocksOk_1K:List Nat:= [0,1,2,3]
theorem i_LocksOk_1_ev (N:Nat) (p q:List D):evFn Tryz.prog i_LocksOk_1T N i_LocksOk_1K Tryz.f186 rb [⟨ag rILock,p⟩,⟨.one (.c (.cptr [si,si,si,si] 0)),q⟩]=some (bo,
 ob (i_clashF (sub ((gd q 0).rows.getD 0 []) 0 4) (sub p 0 4))):=by kernel_rfl
def i_LocksOk_1F (p q:List D):Bool:=
 i_clashF (sub ((gd q 0).rows.getD 0 []) 0 4) (sub p 0 4)
def i_LocksOk_1E:Ent:=(186,e2 (ag rILock) (.one (.c (.cptr [si,si,si,si] 0))) fun p q=>(⟨rb,[.b (i_LocksOk_1F p [gd q 0])]⟩,true))
theorem i_LocksOk_1_ok:EntOk Tryz.prog i_LocksOk_1E:=e2_ok fun p q h=>evFn_sound (N:=0) (ks:=i_LocksOk_1K) (key:=bo) i_LocksOk_1T_ok (enters Tryz.func186) Tryz.func186 fun hw=>by
 rw [i_LocksOk_1_ev]
 try simp only [cond_ob,cond_oi,cond_os]
 rfl
abbrev i_LocksHold_1T:FuncId→List T→Option (T × Bool):=find []
theorem i_LocksHold_1T_ok:CallOk Tryz.prog i_LocksHold_1T:=find_ok (fN)
abbrev i_LocksHold_1K:List Nat:= [0,1,2,3,4,5]
theorem i_LocksHold_1_ev (N:Nat) (p q r s:List D):evFn Tryz.prog i_LocksHold_1T N i_LocksHold_1K Tryz.f222 rb [⟨ag rILock,p⟩,⟨.one (.c (.cptr [si] 0)),q⟩,⟨.one (.c (.cptr [si] 0)),r⟩,⟨.one (.c (.cptr [si,si] 0)),s⟩]=some (bo,
 bif (gd p 0).int==(gd ((gd q 0).rows.getD 0 []) 0).int then bif (gd p 3).int==(gd ((gd r 0).rows.getD 0 []) 0).int then bif leI (gd p 1).int (gd ((gd s 0).rows.getD 0 []) 0).int then ob (leI (gd ((gd s 0).rows.getD 0 []) 1).int (gd p 2).int)
 else ob false
 else bif (gd p 3).int==2 then bif leI (gd p 1).int (gd ((gd s 0).rows.getD 0 []) 0).int then ob (leI (gd ((gd s 0).rows.getD 0 []) 1).int (gd p 2).int)
 else ob false
 else ob false
 else ob false):=by kernel_rfl
def i_LocksHold_1F (p q r s:List D):Bool:=
 bif (gd p 0).int==(gd ((gd q 0).rows.getD 0 []) 0).int then bif (gd p 3).int==(gd ((gd r 0).rows.getD 0 []) 0).int then bif leI (gd p 1).int (gd ((gd s 0).rows.getD 0 []) 0).int then leI (gd ((gd s 0).rows.getD 0 []) 1).int (gd p 2).int
 else false
 else bif (gd p 3).int==2 then bif leI (gd p 1).int (gd ((gd s 0).rows.getD 0 []) 0).int then leI (gd ((gd s 0).rows.getD 0 []) 1).int (gd p 2).int
 else false
 else false
 else false
def i_LocksHold_1E:Ent:=(222,e4 (ag rILock) (.one (.c (.cptr [si] 0))) (.one (.c (.cptr [si] 0))) (.one (.c (.cptr [si,si] 0))) fun p q r s=>(⟨rb,[.b (i_LocksHold_1F p [gd q 0] [gd r 0] [gd s 0])]⟩,true))
theorem i_LocksHold_1_ok:EntOk Tryz.prog i_LocksHold_1E:=e4_ok fun p q r s h=>evFn_sound (N:=0) (ks:=i_LocksHold_1K) (key:=bo) i_LocksHold_1T_ok (enters Tryz.func222) Tryz.func222 fun hw=>by
 rw [i_LocksHold_1_ev]
 try simp only [cond_ob,cond_oi,cond_os]
 rfl
abbrev i_TownOk_1T:FuncId→List T→Option (T × Bool):=find []
theorem i_TownOk_1T_ok:CallOk Tryz.prog i_TownOk_1T:=find_ok (fN)
abbrev i_TownOk_1K:List Nat:= [0,1,2,3]
theorem i_TownOk_1_ev (N:Nat) (p q:List D):evFn Tryz.prog i_TownOk_1T N i_TownOk_1K Tryz.f61 rb [⟨ag rIPart,p⟩,⟨.one (.c (.cptr [si] 0)),q⟩]=some (bo,
 ob (leI (gd ((gd q 0).rows.getD 0 []) 0).int (gd p 2).int)):=by kernel_rfl
def i_TownOk_1F (p q:List D):Bool:=
 leI (gd ((gd q 0).rows.getD 0 []) 0).int (gd p 2).int
def i_TownOk_1E:Ent:=(61,e2 (ag rIPart) (.one (.c (.cptr [si] 0))) fun p q=>(⟨rb,[.b (i_TownOk_1F p [gd q 0])]⟩,true))
theorem i_TownOk_1_ok:EntOk Tryz.prog i_TownOk_1E:=e2_ok fun p q h=>evFn_sound (N:=0) (ks:=i_TownOk_1K) (key:=bo) i_TownOk_1T_ok (enters Tryz.func61) Tryz.func61 fun hw=>by
 rw [i_TownOk_1_ev]
 try simp only [cond_ob,cond_oi,cond_os]
 rfl
abbrev i_clientRight_1T:FuncId→List T→Option (T × Bool):=find []
theorem i_clientRight_1T_ok:CallOk Tryz.prog i_clientRight_1T:=find_ok (fN)
abbrev i_clientRight_1K:List Nat:= [0,1,2,3]
theorem i_clientRight_1_ev (N:Nat) (p q:List D):evFn Tryz.prog i_clientRight_1T N i_clientRight_1K Tryz.f152 rb [⟨ag rIPart,p⟩,⟨.one (.c (.cptr [si] 0)),q⟩]=some (bo,
 ob (leI (gd ((gd q 0).rows.getD 0 []) 0).int (gd p 2).int)):=by kernel_rfl
def i_clientRight_1F (p q:List D):Bool:=
 leI (gd ((gd q 0).rows.getD 0 []) 0).int (gd p 2).int
def i_clientRight_1E:Ent:=(152,e2 (ag rIPart) (.one (.c (.cptr [si] 0))) fun p q=>(⟨rb,[.b (i_clientRight_1F p [gd q 0])]⟩,true))
theorem i_clientRight_1_ok:EntOk Tryz.prog i_clientRight_1E:=e2_ok fun p q h=>evFn_sound (N:=0) (ks:=i_clientRight_1K) (key:=bo) i_clientRight_1T_ok (enters Tryz.func152) Tryz.func152 fun hw=>by
 rw [i_clientRight_1_ev]
 try simp only [cond_ob,cond_oi,cond_os]
 rfl
abbrev i_clientRight_2T:FuncId→List T→Option (T × Bool):=find []
theorem i_clientRight_2T_ok:CallOk Tryz.prog i_clientRight_2T:=find_ok (fN)
abbrev i_clientRight_2K:List Nat:= [0,1,2,3]
theorem i_clientRight_2_ev (N:Nat) (p q:List D):evFn Tryz.prog i_clientRight_2T N i_clientRight_2K Tryz.f154 rb [⟨ag rISeen,p⟩,⟨.one (.c (.cptr [si] 0)),q⟩]=some (bo,
 ob (leI (gd ((gd q 0).rows.getD 0 []) 0).int (gd p 0).int)):=by kernel_rfl
def i_clientRight_2F (p q:List D):Bool:=
 leI (gd ((gd q 0).rows.getD 0 []) 0).int (gd p 0).int
def i_clientRight_2E:Ent:=(154,e2 (ag rISeen) (.one (.c (.cptr [si] 0))) fun p q=>(⟨rb,[.b (i_clientRight_2F p [gd q 0])]⟩,true))
theorem i_clientRight_2_ok:EntOk Tryz.prog i_clientRight_2E:=e2_ok fun p q h=>evFn_sound (N:=0) (ks:=i_clientRight_2K) (key:=bo) i_clientRight_2T_ok (enters Tryz.func154) Tryz.func154 fun hw=>by
 rw [i_clientRight_2_ev]
 try simp only [cond_ob,cond_oi,cond_os]
 rfl
abbrev i_cellsIn_1T:FuncId→List T→Option (T × Bool):=find [i_RhasE]
theorem i_cellsIn_1T_ok:CallOk Tryz.prog i_cellsIn_1T:=find_ok (fC ⟨i_Rhas_ok,fN⟩)
abbrev i_cellsIn_1K:List Nat:= [0,1,2,3]
theorem i_cellsIn_1_ev (N:Nat) (p q:List D):evFn Tryz.prog i_cellsIn_1T N i_cellsIn_1K Tryz.f218 rb [⟨ag rICell,p⟩,⟨.one (.c (.cptr [si,si] 0)),q⟩]=some (bo,
 ob (!(inB (gd p 0).int (gd ((gd q 0).rows.getD 0 []) 0).int (w64 ((gd ((gd q 0).rows.getD 0 []) 1).int - 1))))):=by kernel_rfl
def i_cellsIn_1F (p q:List D):Bool:=
 !(inB (gd p 0).int (gd ((gd q 0).rows.getD 0 []) 0).int (w64 ((gd ((gd q 0).rows.getD 0 []) 1).int - 1)))
def i_cellsIn_1E:Ent:=(218,e2 (ag rICell) (.one (.c (.cptr [si,si] 0))) fun p q=>(⟨rb,[.b (i_cellsIn_1F p [gd q 0])]⟩,true))
theorem i_cellsIn_1_ok:EntOk Tryz.prog i_cellsIn_1E:=e2_ok fun p q h=>evFn_sound (N:=0) (ks:=i_cellsIn_1K) (key:=bo) i_cellsIn_1T_ok (enters Tryz.func218) Tryz.func218 fun hw=>by
 rw [i_cellsIn_1_ev]
 try simp only [cond_ob,cond_oi,cond_os]
 rfl
abbrev i_ClientOk_1T:FuncId→List T→Option (T × Bool):=find [i_isGroupE,i_SkeysE,i_RangeOkE]
theorem i_ClientOk_1T_ok:CallOk Tryz.prog i_ClientOk_1T:=find_ok (fC ⟨i_isGroup_ok,fC ⟨i_Skeys_ok,fC ⟨i_RangeOk_ok,fN⟩⟩⟩)
abbrev i_ClientOk_1K:List Nat:= [0,1,2]
theorem i_ClientOk_1_ev (N:Nat) (p:List D):evFn Tryz.prog i_ClientOk_1T N i_ClientOk_1K Tryz.f201 rb [⟨ag rISeen,p⟩]=some (bo,
 bif !(inB (gd p 0).int (0) (3)) then ob true
 else ob (!(rangeOk [(gd p 1),(gd p 2)]))):=by kernel_rfl
def i_ClientOk_1F (p:List D):Bool:=
 bif !(inB (gd p 0).int (0) (3)) then true
 else !(rangeOk [(gd p 1),(gd p 2)])
def i_ClientOk_1E:Ent:=(201,e1 (ag rISeen) fun p=>(⟨rb,[.b (i_ClientOk_1F p)]⟩,true))
theorem i_ClientOk_1_ok:EntOk Tryz.prog i_ClientOk_1E:=e1_ok fun p h=>evFn_sound (N:=0) (ks:=i_ClientOk_1K) (key:=bo) i_ClientOk_1T_ok (enters Tryz.func201) Tryz.func201 fun hw=>by
 rw [i_ClientOk_1_ev]
 try simp only [cond_ob,cond_oi,cond_os]
 rfl
end Go.Proofs.YtecefnhhlaolmaaGreat
namespace Go.Proofs.YtecefnhhlaolmaaGreat
set_option maxRecDepth 4096
abbrev ixfLOT:FuncId→List T→Option (T × Bool):=find [i_LocksOk_1E]
theorem ixfLOT_ok:CallOk Tryz.prog ixfLOT:=find_ok (fC ⟨i_LocksOk_1_ok,fN⟩)
abbrev ixfLOK:List Nat:= [0,1,4,5,7,8,9,16]
noncomputable def ixfLOL0 (N:Nat) (p q:List D):List D→Out:=loopOf Tryz.prog ixfLOT N ixfLOK Tryz.f194 ri [⟨sd (.sl 133),p⟩,⟨.one (.c (.fn 186 [.cptr [si,si,si,si] 0])),q⟩] 0
theorem ixfLOR0 (N:Nat) (p q:List D) (x0 x1 x2 x3 x4:D):(ixfLOL0 N p q) [x0,x1,x2,x3,x4] =
 bif ltI x4.int x3.int then nd (inRange x4.int x0.rows.length) (bif i_LocksOk_1F (sub (x0.rows.getD x4.int.toNat []) 0 4) [(gd (x1.rows.getD 0 []) 0)] then some (1,[x4])
 else nx [x0,x1,x2,x3,.i (w64 (x4.int+1))])
 else ex 0 [x0,x1,x2,x3,x4]:=by kernel_rfl
theorem ixfLO_ev (N:Nat) (p q:List D):evFn Tryz.prog ixfLOT N ixfLOK Tryz.f194 ri [⟨sd (.sl 133),p⟩,⟨.one (.c (.fn 186 [.cptr [si,si,si,si] 0])),q⟩]=some (bo,
 (let o0:=iter (ixfLOL0 N p q) N [gd p 0,gd q 0,.i 0,.i ((gd p 0).rows.length:Int),.i 0]
  nd o0.isSome (bif o0.code==1 then some (1,o0.pay)
  else nd (o0.code==2) (oi (-1))))):=by kernel_rfl
def ixfLOC (c:D) (r:List D):Bool:=i_LocksOk_1F r [gd (c.rows.getD 0 []) 0]
def ixfLOE:Ent:=(194,e2 (sd (.sl 133)) (.one (.c (.fn 186 [.cptr [si,si,si,si] 0]))) fun p q=>(⟨ri,[.i (ixF (fun k=>ixfLOC (gd q 0) (sub ((gd p 0).rows.getD k []) 0 4)) 0 (gd p 0).rows.length)]⟩,true))
theorem ixfLO_ok:EntOk Tryz.prog ixfLOE:=e2_ok fun p q h=>evFn_sound (N:=(gd p 0).rows.length+1) (ks:=ixfLOK) (key:=bo) ixfLOT_ok (enters Tryz.func194) Tryz.func194 fun hw=>by
 rw [ixfLO_ev]
 have hl:=wt_sl (hw ⟨sd (.sl 133),p⟩ (by simp))
 have e:=ix_loop (L:=ixfLOL0 ((gd p 0).rows.length+1) p q) (fun k => [gd p 0,gd q 0,.i 0,.i ((gd p 0).rows.length:Int),.i (k:Int)]) (gd p 0).rows.length (fun k=>ixfLOC (gd q 0) (sub ((gd p 0).rows.getD k []) 0 4)) [gd p 0,gd q 0,.i 0,.i ((gd p 0).rows.length:Int),.i ((gd p 0).rows.length:Int)] (fun k hk=>?_) ?_ (gd p 0).rows.length 0 ((gd p 0).rows.length+1) (by omega) (by omega)
 ·simp only [Int.natCast_zero] at e
  rw [e]
  have hno:=ixF_neg (fun k=>ixfLOC (gd q 0) (sub ((gd p 0).rows.getD k []) 0 4)) (gd p 0).rows.length 0
  cases hd:decide (ixF (fun k=>ixfLOC (gd q 0) (sub ((gd p 0).rows.getD k []) 0 4)) 0 (gd p 0).rows.length≥0)
  ·rw [hno hd]; rfl
  ·rfl
 ·show ixfLOL0 _ p q [_,_,_,_,.i (k:Int)]=_
  rw [ixfLOR0]
  simp only [int_i,c_lt hk,nd_ix hk,w64_succ hk hl,Int.toNat_natCast]
  unfold ixfLOC
  cases i_LocksOk_1F (sub ((gd p 0).rows.getD k []) 0 4) [gd ((gd q 0).rows.getD 0 []) 0] <;> rfl
 ·show ixfLOL0 _ p q [_,_,_,.i ((gd p 0).rows.length:Int),.i ((gd p 0).rows.length:Int)]=_
  rw [ixfLOR0]
  simp only [int_i,c_nlt]
abbrev cofLOT:FuncId→List T→Option (T × Bool):=find [ixfLOE,i_LocksOk_1E]
theorem cofLOT_ok:CallOk Tryz.prog cofLOT:=find_ok (fC ⟨ixfLO_ok,fC ⟨i_LocksOk_1_ok,fN⟩⟩)
abbrev cofLOK:List Nat:= [0,1,4]
theorem cofLO_ev (N:Nat) (p q:List D):evFn Tryz.prog cofLOT N cofLOK Tryz.f136 rb [⟨sd (.sl 133),p⟩,⟨.one (.c (.fn 186 [.cptr [si,si,si,si] 0])),q⟩]=some (bo,
 ob (leI 0 (ixF (fun k=>ixfLOC (.l [[gd ((gd q 0).rows.getD 0 []) 0]]) (sub ((gd p 0).rows.getD k []) 0 4)) 0 (gd p 0).rows.length))):=by kernel_rfl
def cofLOE:Ent:=(136,e2 (sd (.sl 133)) (.one (.c (.fn 186 [.cptr [si,si,si,si] 0]))) fun p q=>(⟨rb,[.b (anyS (fun rr=>ixfLOC (gd q 0) (sub rr 0 4)) (gd p 0))]⟩,true))
theorem cofLO_ok:EntOk Tryz.prog cofLOE:=e2_ok fun p q h=>evFn_sound (N:=0) (ks:=cofLOK) (key:=bo) cofLOT_ok (enters Tryz.func136) Tryz.func136 fun hw=>by
 rw [cofLO_ev]
 refine congrArg (fun x=>some (bo,ob x)) ?_
 exact (ixF_any (fun k=>ixfLOC (gd q 0) (sub ((gd p 0).rows.getD k []) 0 4)) (gd p 0).rows.length 0).trans (by simp only [Nat.zero_add]; rfl)
abbrev ixfLHT:FuncId→List T→Option (T × Bool):=find [i_LocksHold_1E]
theorem ixfLHT_ok:CallOk Tryz.prog ixfLHT:=find_ok (fC ⟨i_LocksHold_1_ok,fN⟩)
abbrev ixfLHK:List Nat:= [0,1,4,5,7,8,9,16]
noncomputable def ixfLHL0 (N:Nat) (p q:List D):List D→Out:=loopOf Tryz.prog ixfLHT N ixfLHK Tryz.f194 ri [⟨sd (.sl 133),p⟩,⟨.one (.c (.fn 222 [.cptr [si] 0,.cptr [si] 0,.cptr [si,si] 0])),q⟩] 0
theorem ixfLHR0 (N:Nat) (p q:List D) (x0 x1 x2 x3 x4:D):(ixfLHL0 N p q) [x0,x1,x2,x3,x4] =
 bif ltI x4.int x3.int then nd (inRange x4.int x0.rows.length) (bif i_LocksHold_1F (sub (x0.rows.getD x4.int.toNat []) 0 4) [(gd (x1.rows.getD 0 []) 0)] [(gd (x1.rows.getD 0 []).tail 0)] [(gd (x1.rows.getD 0 []).tail.tail 0)] then some (1,[x4])
 else nx [x0,x1,x2,x3,.i (w64 (x4.int+1))])
 else ex 0 [x0,x1,x2,x3,x4]:=by kernel_rfl
theorem ixfLH_ev (N:Nat) (p q:List D):evFn Tryz.prog ixfLHT N ixfLHK Tryz.f194 ri [⟨sd (.sl 133),p⟩,⟨.one (.c (.fn 222 [.cptr [si] 0,.cptr [si] 0,.cptr [si,si] 0])),q⟩]=some (bo,
 (let o0:=iter (ixfLHL0 N p q) N [gd p 0,gd q 0,.i 0,.i ((gd p 0).rows.length:Int),.i 0]
  nd o0.isSome (bif o0.code==1 then some (1,o0.pay)
  else nd (o0.code==2) (oi (-1))))):=by kernel_rfl
def ixfLHC (c:D) (r:List D):Bool:=i_LocksHold_1F r [gd (c.rows.getD 0 []) 0] [gd (c.rows.getD 0 []).tail 0] [gd (c.rows.getD 0 []).tail.tail 0]
def ixfLHE:Ent:=(194,e2 (sd (.sl 133)) (.one (.c (.fn 222 [.cptr [si] 0,.cptr [si] 0,.cptr [si,si] 0]))) fun p q=>(⟨ri,[.i (ixF (fun k=>ixfLHC (gd q 0) (sub ((gd p 0).rows.getD k []) 0 4)) 0 (gd p 0).rows.length)]⟩,true))
theorem ixfLH_ok:EntOk Tryz.prog ixfLHE:=e2_ok fun p q h=>evFn_sound (N:=(gd p 0).rows.length+1) (ks:=ixfLHK) (key:=bo) ixfLHT_ok (enters Tryz.func194) Tryz.func194 fun hw=>by
 rw [ixfLH_ev]
 have hl:=wt_sl (hw ⟨sd (.sl 133),p⟩ (by simp))
 have e:=ix_loop (L:=ixfLHL0 ((gd p 0).rows.length+1) p q) (fun k => [gd p 0,gd q 0,.i 0,.i ((gd p 0).rows.length:Int),.i (k:Int)]) (gd p 0).rows.length (fun k=>ixfLHC (gd q 0) (sub ((gd p 0).rows.getD k []) 0 4)) [gd p 0,gd q 0,.i 0,.i ((gd p 0).rows.length:Int),.i ((gd p 0).rows.length:Int)] (fun k hk=>?_) ?_ (gd p 0).rows.length 0 ((gd p 0).rows.length+1) (by omega) (by omega)
 ·simp only [Int.natCast_zero] at e
  rw [e]
  have hno:=ixF_neg (fun k=>ixfLHC (gd q 0) (sub ((gd p 0).rows.getD k []) 0 4)) (gd p 0).rows.length 0
  cases hd:decide (ixF (fun k=>ixfLHC (gd q 0) (sub ((gd p 0).rows.getD k []) 0 4)) 0 (gd p 0).rows.length≥0)
  ·rw [hno hd]; rfl
  ·rfl
 ·show ixfLHL0 _ p q [_,_,_,_,.i (k:Int)]=_
  rw [ixfLHR0]
  simp only [int_i,c_lt hk,nd_ix hk,w64_succ hk hl,Int.toNat_natCast]
  unfold ixfLHC
  cases i_LocksHold_1F (sub ((gd p 0).rows.getD k []) 0 4) [gd ((gd q 0).rows.getD 0 []) 0] [gd ((gd q 0).rows.getD 0 []).tail 0] [gd ((gd q 0).rows.getD 0 []).tail.tail 0] <;> rfl
 ·show ixfLHL0 _ p q [_,_,_,.i ((gd p 0).rows.length:Int),.i ((gd p 0).rows.length:Int)]=_
  rw [ixfLHR0]
  simp only [int_i,c_nlt]
abbrev cofLHT:FuncId→List T→Option (T × Bool):=find [ixfLHE,i_LocksHold_1E]
theorem cofLHT_ok:CallOk Tryz.prog cofLHT:=find_ok (fC ⟨ixfLH_ok,fC ⟨i_LocksHold_1_ok,fN⟩⟩)
abbrev cofLHK:List Nat:= [0,1,4]
theorem cofLH_ev (N:Nat) (p q:List D):evFn Tryz.prog cofLHT N cofLHK Tryz.f136 rb [⟨sd (.sl 133),p⟩,⟨.one (.c (.fn 222 [.cptr [si] 0,.cptr [si] 0,.cptr [si,si] 0])),q⟩]=some (bo,
 ob (leI 0 (ixF (fun k=>ixfLHC (.l [[gd ((gd q 0).rows.getD 0 []) 0,gd ((gd q 0).rows.getD 0 []).tail 0,gd ((gd q 0).rows.getD 0 []).tail.tail 0]]) (sub ((gd p 0).rows.getD k []) 0 4)) 0 (gd p 0).rows.length))):=by kernel_rfl
def cofLHE:Ent:=(136,e2 (sd (.sl 133)) (.one (.c (.fn 222 [.cptr [si] 0,.cptr [si] 0,.cptr [si,si] 0]))) fun p q=>(⟨rb,[.b (anyS (fun rr=>ixfLHC (gd q 0) (sub rr 0 4)) (gd p 0))]⟩,true))
theorem cofLH_ok:EntOk Tryz.prog cofLHE:=e2_ok fun p q h=>evFn_sound (N:=0) (ks:=cofLHK) (key:=bo) cofLHT_ok (enters Tryz.func136) Tryz.func136 fun hw=>by
 rw [cofLH_ev]
 refine congrArg (fun x=>some (bo,ob x)) ?_
 exact (ixF_any (fun k=>ixfLHC (gd q 0) (sub ((gd p 0).rows.getD k []) 0 4)) (gd p 0).rows.length 0).trans (by simp only [Nat.zero_add]; rfl)
abbrev ixfTPT:FuncId→List T→Option (T × Bool):=find [i_TownOk_1E]
theorem ixfTPT_ok:CallOk Tryz.prog ixfTPT:=find_ok (fC ⟨i_TownOk_1_ok,fN⟩)
abbrev ixfTPK:List Nat:= [0,1,4,5,7,8,9,16]
noncomputable def ixfTPL0 (N:Nat) (p q:List D):List D→Out:=loopOf Tryz.prog ixfTPT N ixfTPK Tryz.f145 ri [⟨sd (.sl 62),p⟩,⟨.one (.c (.fn 61 [.cptr [si] 0])),q⟩] 0
theorem ixfTPR0 (N:Nat) (p q:List D) (x0 x1 x2 x3 x4:D):(ixfTPL0 N p q) [x0,x1,x2,x3,x4] =
 bif ltI x4.int x3.int then nd (inRange x4.int x0.rows.length) (bif i_TownOk_1F (sub (x0.rows.getD x4.int.toNat []) 0 3) [(gd (x1.rows.getD 0 []) 0)] then some (1,[x4])
 else nx [x0,x1,x2,x3,.i (w64 (x4.int+1))])
 else ex 0 [x0,x1,x2,x3,x4]:=by kernel_rfl
theorem ixfTP_ev (N:Nat) (p q:List D):evFn Tryz.prog ixfTPT N ixfTPK Tryz.f145 ri [⟨sd (.sl 62),p⟩,⟨.one (.c (.fn 61 [.cptr [si] 0])),q⟩]=some (bo,
 (let o0:=iter (ixfTPL0 N p q) N [gd p 0,gd q 0,.i 0,.i ((gd p 0).rows.length:Int),.i 0]
  nd o0.isSome (bif o0.code==1 then some (1,o0.pay)
  else nd (o0.code==2) (oi (-1))))):=by kernel_rfl
def ixfTPC (c:D) (r:List D):Bool:=i_TownOk_1F r [gd (c.rows.getD 0 []) 0]
def ixfTPE:Ent:=(145,e2 (sd (.sl 62)) (.one (.c (.fn 61 [.cptr [si] 0]))) fun p q=>(⟨ri,[.i (ixF (fun k=>ixfTPC (gd q 0) (sub ((gd p 0).rows.getD k []) 0 3)) 0 (gd p 0).rows.length)]⟩,true))
theorem ixfTP_ok:EntOk Tryz.prog ixfTPE:=e2_ok fun p q h=>evFn_sound (N:=(gd p 0).rows.length+1) (ks:=ixfTPK) (key:=bo) ixfTPT_ok (enters Tryz.func145) Tryz.func145 fun hw=>by
 rw [ixfTP_ev]
 have hl:=wt_sl (hw ⟨sd (.sl 62),p⟩ (by simp))
 have e:=ix_loop (L:=ixfTPL0 ((gd p 0).rows.length+1) p q) (fun k => [gd p 0,gd q 0,.i 0,.i ((gd p 0).rows.length:Int),.i (k:Int)]) (gd p 0).rows.length (fun k=>ixfTPC (gd q 0) (sub ((gd p 0).rows.getD k []) 0 3)) [gd p 0,gd q 0,.i 0,.i ((gd p 0).rows.length:Int),.i ((gd p 0).rows.length:Int)] (fun k hk=>?_) ?_ (gd p 0).rows.length 0 ((gd p 0).rows.length+1) (by omega) (by omega)
 ·simp only [Int.natCast_zero] at e
  rw [e]
  have hno:=ixF_neg (fun k=>ixfTPC (gd q 0) (sub ((gd p 0).rows.getD k []) 0 3)) (gd p 0).rows.length 0
  cases hd:decide (ixF (fun k=>ixfTPC (gd q 0) (sub ((gd p 0).rows.getD k []) 0 3)) 0 (gd p 0).rows.length≥0)
  ·rw [hno hd]; rfl
  ·rfl
 ·show ixfTPL0 _ p q [_,_,_,_,.i (k:Int)]=_
  rw [ixfTPR0]
  simp only [int_i,c_lt hk,nd_ix hk,w64_succ hk hl,Int.toNat_natCast]
  unfold ixfTPC
  cases i_TownOk_1F (sub ((gd p 0).rows.getD k []) 0 3) [gd ((gd q 0).rows.getD 0 []) 0] <;> rfl
 ·show ixfTPL0 _ p q [_,_,_,.i ((gd p 0).rows.length:Int),.i ((gd p 0).rows.length:Int)]=_
  rw [ixfTPR0]
  simp only [int_i,c_nlt]
abbrev cofTPT:FuncId→List T→Option (T × Bool):=find [ixfTPE,i_TownOk_1E]
theorem cofTPT_ok:CallOk Tryz.prog cofTPT:=find_ok (fC ⟨ixfTP_ok,fC ⟨i_TownOk_1_ok,fN⟩⟩)
abbrev cofTPK:List Nat:= [0,1,4]
theorem cofTP_ev (N:Nat) (p q:List D):evFn Tryz.prog cofTPT N cofTPK Tryz.f60 rb [⟨sd (.sl 62),p⟩,⟨.one (.c (.fn 61 [.cptr [si] 0])),q⟩]=some (bo,
 ob (leI 0 (ixF (fun k=>ixfTPC (.l [[gd ((gd q 0).rows.getD 0 []) 0]]) (sub ((gd p 0).rows.getD k []) 0 3)) 0 (gd p 0).rows.length))):=by kernel_rfl
def cofTPE:Ent:=(60,e2 (sd (.sl 62)) (.one (.c (.fn 61 [.cptr [si] 0]))) fun p q=>(⟨rb,[.b (anyS (fun rr=>ixfTPC (gd q 0) (sub rr 0 3)) (gd p 0))]⟩,true))
theorem cofTP_ok:EntOk Tryz.prog cofTPE:=e2_ok fun p q h=>evFn_sound (N:=0) (ks:=cofTPK) (key:=bo) cofTPT_ok (enters Tryz.func60) Tryz.func60 fun hw=>by
 rw [cofTP_ev]
 refine congrArg (fun x=>some (bo,ob x)) ?_
 exact (ixF_any (fun k=>ixfTPC (gd q 0) (sub ((gd p 0).rows.getD k []) 0 3)) (gd p 0).rows.length 0).trans (by simp only [Nat.zero_add]; rfl)
abbrev ixfCPT:FuncId→List T→Option (T × Bool):=find [i_clientRight_1E]
theorem ixfCPT_ok:CallOk Tryz.prog ixfCPT:=find_ok (fC ⟨i_clientRight_1_ok,fN⟩)
abbrev ixfCPK:List Nat:= [0,1,4,5,7,8,9,16]
noncomputable def ixfCPL0 (N:Nat) (p q:List D):List D→Out:=loopOf Tryz.prog ixfCPT N ixfCPK Tryz.f145 ri [⟨sd (.sl 62),p⟩,⟨.one (.c (.fn 152 [.cptr [si] 0])),q⟩] 0
theorem ixfCPR0 (N:Nat) (p q:List D) (x0 x1 x2 x3 x4:D):(ixfCPL0 N p q) [x0,x1,x2,x3,x4] =
 bif ltI x4.int x3.int then nd (inRange x4.int x0.rows.length) (bif i_clientRight_1F (sub (x0.rows.getD x4.int.toNat []) 0 3) [(gd (x1.rows.getD 0 []) 0)] then some (1,[x4])
 else nx [x0,x1,x2,x3,.i (w64 (x4.int+1))])
 else ex 0 [x0,x1,x2,x3,x4]:=by kernel_rfl
theorem ixfCP_ev (N:Nat) (p q:List D):evFn Tryz.prog ixfCPT N ixfCPK Tryz.f145 ri [⟨sd (.sl 62),p⟩,⟨.one (.c (.fn 152 [.cptr [si] 0])),q⟩]=some (bo,
 (let o0:=iter (ixfCPL0 N p q) N [gd p 0,gd q 0,.i 0,.i ((gd p 0).rows.length:Int),.i 0]
  nd o0.isSome (bif o0.code==1 then some (1,o0.pay)
  else nd (o0.code==2) (oi (-1))))):=by kernel_rfl
def ixfCPC (c:D) (r:List D):Bool:=i_clientRight_1F r [gd (c.rows.getD 0 []) 0]
def ixfCPE:Ent:=(145,e2 (sd (.sl 62)) (.one (.c (.fn 152 [.cptr [si] 0]))) fun p q=>(⟨ri,[.i (ixF (fun k=>ixfCPC (gd q 0) (sub ((gd p 0).rows.getD k []) 0 3)) 0 (gd p 0).rows.length)]⟩,true))
theorem ixfCP_ok:EntOk Tryz.prog ixfCPE:=e2_ok fun p q h=>evFn_sound (N:=(gd p 0).rows.length+1) (ks:=ixfCPK) (key:=bo) ixfCPT_ok (enters Tryz.func145) Tryz.func145 fun hw=>by
 rw [ixfCP_ev]
 have hl:=wt_sl (hw ⟨sd (.sl 62),p⟩ (by simp))
 have e:=ix_loop (L:=ixfCPL0 ((gd p 0).rows.length+1) p q) (fun k => [gd p 0,gd q 0,.i 0,.i ((gd p 0).rows.length:Int),.i (k:Int)]) (gd p 0).rows.length (fun k=>ixfCPC (gd q 0) (sub ((gd p 0).rows.getD k []) 0 3)) [gd p 0,gd q 0,.i 0,.i ((gd p 0).rows.length:Int),.i ((gd p 0).rows.length:Int)] (fun k hk=>?_) ?_ (gd p 0).rows.length 0 ((gd p 0).rows.length+1) (by omega) (by omega)
 ·simp only [Int.natCast_zero] at e
  rw [e]
  have hno:=ixF_neg (fun k=>ixfCPC (gd q 0) (sub ((gd p 0).rows.getD k []) 0 3)) (gd p 0).rows.length 0
  cases hd:decide (ixF (fun k=>ixfCPC (gd q 0) (sub ((gd p 0).rows.getD k []) 0 3)) 0 (gd p 0).rows.length≥0)
  ·rw [hno hd]; rfl
  ·rfl
 ·show ixfCPL0 _ p q [_,_,_,_,.i (k:Int)]=_
  rw [ixfCPR0]
  simp only [int_i,c_lt hk,nd_ix hk,w64_succ hk hl,Int.toNat_natCast]
  unfold ixfCPC
  cases i_clientRight_1F (sub ((gd p 0).rows.getD k []) 0 3) [gd ((gd q 0).rows.getD 0 []) 0] <;> rfl
 ·show ixfCPL0 _ p q [_,_,_,.i ((gd p 0).rows.length:Int),.i ((gd p 0).rows.length:Int)]=_
  rw [ixfCPR0]
  simp only [int_i,c_nlt]
abbrev cofCPT:FuncId→List T→Option (T × Bool):=find [ixfCPE,i_clientRight_1E]
theorem cofCPT_ok:CallOk Tryz.prog cofCPT:=find_ok (fC ⟨ixfCP_ok,fC ⟨i_clientRight_1_ok,fN⟩⟩)
abbrev cofCPK:List Nat:= [0,1,4]
theorem cofCP_ev (N:Nat) (p q:List D):evFn Tryz.prog cofCPT N cofCPK Tryz.f60 rb [⟨sd (.sl 62),p⟩,⟨.one (.c (.fn 152 [.cptr [si] 0])),q⟩]=some (bo,
 ob (leI 0 (ixF (fun k=>ixfCPC (.l [[gd ((gd q 0).rows.getD 0 []) 0]]) (sub ((gd p 0).rows.getD k []) 0 3)) 0 (gd p 0).rows.length))):=by kernel_rfl
def cofCPE:Ent:=(60,e2 (sd (.sl 62)) (.one (.c (.fn 152 [.cptr [si] 0]))) fun p q=>(⟨rb,[.b (anyS (fun rr=>ixfCPC (gd q 0) (sub rr 0 3)) (gd p 0))]⟩,true))
theorem cofCP_ok:EntOk Tryz.prog cofCPE:=e2_ok fun p q h=>evFn_sound (N:=0) (ks:=cofCPK) (key:=bo) cofCPT_ok (enters Tryz.func60) Tryz.func60 fun hw=>by
 rw [cofCP_ev]
 refine congrArg (fun x=>some (bo,ob x)) ?_
 exact (ixF_any (fun k=>ixfCPC (gd q 0) (sub ((gd p 0).rows.getD k []) 0 3)) (gd p 0).rows.length 0).trans (by simp only [Nat.zero_add]; rfl)
abbrev ixfCST:FuncId→List T→Option (T × Bool):=find [i_clientRight_2E]
theorem ixfCST_ok:CallOk Tryz.prog ixfCST:=find_ok (fC ⟨i_clientRight_2_ok,fN⟩)
abbrev ixfCSK:List Nat:= [0,1,4,5,7,8,9,16]
noncomputable def ixfCSL0 (N:Nat) (p q:List D):List D→Out:=loopOf Tryz.prog ixfCST N ixfCSK Tryz.f203 ri [⟨sd (.sl 141),p⟩,⟨.one (.c (.fn 154 [.cptr [si] 0])),q⟩] 0
theorem ixfCSR0 (N:Nat) (p q:List D) (x0 x1 x2 x3 x4:D):(ixfCSL0 N p q) [x0,x1,x2,x3,x4] =
 bif ltI x4.int x3.int then nd (inRange x4.int x0.rows.length) (bif i_clientRight_2F (sub (x0.rows.getD x4.int.toNat []) 0 3) [(gd (x1.rows.getD 0 []) 0)] then some (1,[x4])
 else nx [x0,x1,x2,x3,.i (w64 (x4.int+1))])
 else ex 0 [x0,x1,x2,x3,x4]:=by kernel_rfl
theorem ixfCS_ev (N:Nat) (p q:List D):evFn Tryz.prog ixfCST N ixfCSK Tryz.f203 ri [⟨sd (.sl 141),p⟩,⟨.one (.c (.fn 154 [.cptr [si] 0])),q⟩]=some (bo,
 (let o0:=iter (ixfCSL0 N p q) N [gd p 0,gd q 0,.i 0,.i ((gd p 0).rows.length:Int),.i 0]
  nd o0.isSome (bif o0.code==1 then some (1,o0.pay)
  else nd (o0.code==2) (oi (-1))))):=by kernel_rfl
def ixfCSC (c:D) (r:List D):Bool:=i_clientRight_2F r [gd (c.rows.getD 0 []) 0]
def ixfCSE:Ent:=(203,e2 (sd (.sl 141)) (.one (.c (.fn 154 [.cptr [si] 0]))) fun p q=>(⟨ri,[.i (ixF (fun k=>ixfCSC (gd q 0) (sub ((gd p 0).rows.getD k []) 0 3)) 0 (gd p 0).rows.length)]⟩,true))
theorem ixfCS_ok:EntOk Tryz.prog ixfCSE:=e2_ok fun p q h=>evFn_sound (N:=(gd p 0).rows.length+1) (ks:=ixfCSK) (key:=bo) ixfCST_ok (enters Tryz.func203) Tryz.func203 fun hw=>by
 rw [ixfCS_ev]
 have hl:=wt_sl (hw ⟨sd (.sl 141),p⟩ (by simp))
 have e:=ix_loop (L:=ixfCSL0 ((gd p 0).rows.length+1) p q) (fun k => [gd p 0,gd q 0,.i 0,.i ((gd p 0).rows.length:Int),.i (k:Int)]) (gd p 0).rows.length (fun k=>ixfCSC (gd q 0) (sub ((gd p 0).rows.getD k []) 0 3)) [gd p 0,gd q 0,.i 0,.i ((gd p 0).rows.length:Int),.i ((gd p 0).rows.length:Int)] (fun k hk=>?_) ?_ (gd p 0).rows.length 0 ((gd p 0).rows.length+1) (by omega) (by omega)
 ·simp only [Int.natCast_zero] at e
  rw [e]
  have hno:=ixF_neg (fun k=>ixfCSC (gd q 0) (sub ((gd p 0).rows.getD k []) 0 3)) (gd p 0).rows.length 0
  cases hd:decide (ixF (fun k=>ixfCSC (gd q 0) (sub ((gd p 0).rows.getD k []) 0 3)) 0 (gd p 0).rows.length≥0)
  ·rw [hno hd]; rfl
  ·rfl
 ·show ixfCSL0 _ p q [_,_,_,_,.i (k:Int)]=_
  rw [ixfCSR0]
  simp only [int_i,c_lt hk,nd_ix hk,w64_succ hk hl,Int.toNat_natCast]
  unfold ixfCSC
  cases i_clientRight_2F (sub ((gd p 0).rows.getD k []) 0 3) [gd ((gd q 0).rows.getD 0 []) 0] <;> rfl
 ·show ixfCSL0 _ p q [_,_,_,.i ((gd p 0).rows.length:Int),.i ((gd p 0).rows.length:Int)]=_
  rw [ixfCSR0]
  simp only [int_i,c_nlt]
abbrev cofCST:FuncId→List T→Option (T × Bool):=find [ixfCSE,i_clientRight_2E]
theorem cofCST_ok:CallOk Tryz.prog cofCST:=find_ok (fC ⟨ixfCS_ok,fC ⟨i_clientRight_2_ok,fN⟩⟩)
abbrev cofCSK:List Nat:= [0,1,4]
theorem cofCS_ev (N:Nat) (p q:List D):evFn Tryz.prog cofCST N cofCSK Tryz.f153 rb [⟨sd (.sl 141),p⟩,⟨.one (.c (.fn 154 [.cptr [si] 0])),q⟩]=some (bo,
 ob (leI 0 (ixF (fun k=>ixfCSC (.l [[gd ((gd q 0).rows.getD 0 []) 0]]) (sub ((gd p 0).rows.getD k []) 0 3)) 0 (gd p 0).rows.length))):=by kernel_rfl
def cofCSE:Ent:=(153,e2 (sd (.sl 141)) (.one (.c (.fn 154 [.cptr [si] 0]))) fun p q=>(⟨rb,[.b (anyS (fun rr=>ixfCSC (gd q 0) (sub rr 0 3)) (gd p 0))]⟩,true))
theorem cofCS_ok:EntOk Tryz.prog cofCSE:=e2_ok fun p q h=>evFn_sound (N:=0) (ks:=cofCSK) (key:=bo) cofCST_ok (enters Tryz.func153) Tryz.func153 fun hw=>by
 rw [cofCS_ev]
 refine congrArg (fun x=>some (bo,ob x)) ?_
 exact (ixF_any (fun k=>ixfCSC (gd q 0) (sub ((gd p 0).rows.getD k []) 0 3)) (gd p 0).rows.length 0).trans (by simp only [Nat.zero_add]; rfl)
abbrev ixfCIT:FuncId→List T→Option (T × Bool):=find [i_cellsIn_1E]
theorem ixfCIT_ok:CallOk Tryz.prog ixfCIT:=find_ok (fC ⟨i_cellsIn_1_ok,fN⟩)
abbrev ixfCIK:List Nat:= [0,1,4,5,7,8,9,16]
noncomputable def ixfCIL0 (N:Nat) (p q:List D):List D→Out:=loopOf Tryz.prog ixfCIT N ixfCIK Tryz.f192 ri [⟨sd (.sl 131),p⟩,⟨.one (.c (.fn 218 [.cptr [si,si] 0])),q⟩] 0
theorem ixfCIR0 (N:Nat) (p q:List D) (x0 x1 x2 x3 x4:D):(ixfCIL0 N p q) [x0,x1,x2,x3,x4] =
 bif ltI x4.int x3.int then nd (inRange x4.int x0.rows.length) (bif i_cellsIn_1F (sub (x0.rows.getD x4.int.toNat []) 0 2) [(gd (x1.rows.getD 0 []) 0)] then some (1,[x4])
 else nx [x0,x1,x2,x3,.i (w64 (x4.int+1))])
 else ex 0 [x0,x1,x2,x3,x4]:=by kernel_rfl
theorem ixfCI_ev (N:Nat) (p q:List D):evFn Tryz.prog ixfCIT N ixfCIK Tryz.f192 ri [⟨sd (.sl 131),p⟩,⟨.one (.c (.fn 218 [.cptr [si,si] 0])),q⟩]=some (bo,
 (let o0:=iter (ixfCIL0 N p q) N [gd p 0,gd q 0,.i 0,.i ((gd p 0).rows.length:Int),.i 0]
  nd o0.isSome (bif o0.code==1 then some (1,o0.pay)
  else nd (o0.code==2) (oi (-1))))):=by kernel_rfl
def ixfCIC (c:D) (r:List D):Bool:=i_cellsIn_1F r [gd (c.rows.getD 0 []) 0]
def ixfCIE:Ent:=(192,e2 (sd (.sl 131)) (.one (.c (.fn 218 [.cptr [si,si] 0]))) fun p q=>(⟨ri,[.i (ixF (fun k=>ixfCIC (gd q 0) (sub ((gd p 0).rows.getD k []) 0 2)) 0 (gd p 0).rows.length)]⟩,true))
theorem ixfCI_ok:EntOk Tryz.prog ixfCIE:=e2_ok fun p q h=>evFn_sound (N:=(gd p 0).rows.length+1) (ks:=ixfCIK) (key:=bo) ixfCIT_ok (enters Tryz.func192) Tryz.func192 fun hw=>by
 rw [ixfCI_ev]
 have hl:=wt_sl (hw ⟨sd (.sl 131),p⟩ (by simp))
 have e:=ix_loop (L:=ixfCIL0 ((gd p 0).rows.length+1) p q) (fun k => [gd p 0,gd q 0,.i 0,.i ((gd p 0).rows.length:Int),.i (k:Int)]) (gd p 0).rows.length (fun k=>ixfCIC (gd q 0) (sub ((gd p 0).rows.getD k []) 0 2)) [gd p 0,gd q 0,.i 0,.i ((gd p 0).rows.length:Int),.i ((gd p 0).rows.length:Int)] (fun k hk=>?_) ?_ (gd p 0).rows.length 0 ((gd p 0).rows.length+1) (by omega) (by omega)
 ·simp only [Int.natCast_zero] at e
  rw [e]
  have hno:=ixF_neg (fun k=>ixfCIC (gd q 0) (sub ((gd p 0).rows.getD k []) 0 2)) (gd p 0).rows.length 0
  cases hd:decide (ixF (fun k=>ixfCIC (gd q 0) (sub ((gd p 0).rows.getD k []) 0 2)) 0 (gd p 0).rows.length≥0)
  ·rw [hno hd]; rfl
  ·rfl
 ·show ixfCIL0 _ p q [_,_,_,_,.i (k:Int)]=_
  rw [ixfCIR0]
  simp only [int_i,c_lt hk,nd_ix hk,w64_succ hk hl,Int.toNat_natCast]
  unfold ixfCIC
  cases i_cellsIn_1F (sub ((gd p 0).rows.getD k []) 0 2) [gd ((gd q 0).rows.getD 0 []) 0] <;> rfl
 ·show ixfCIL0 _ p q [_,_,_,.i ((gd p 0).rows.length:Int),.i ((gd p 0).rows.length:Int)]=_
  rw [ixfCIR0]
  simp only [int_i,c_nlt]
abbrev cofCIT:FuncId→List T→Option (T × Bool):=find [ixfCIE,i_cellsIn_1E]
theorem cofCIT_ok:CallOk Tryz.prog cofCIT:=find_ok (fC ⟨ixfCI_ok,fC ⟨i_cellsIn_1_ok,fN⟩⟩)
abbrev cofCIK:List Nat:= [0,1,4]
theorem cofCI_ev (N:Nat) (p q:List D):evFn Tryz.prog cofCIT N cofCIK Tryz.f132 rb [⟨sd (.sl 131),p⟩,⟨.one (.c (.fn 218 [.cptr [si,si] 0])),q⟩]=some (bo,
 ob (leI 0 (ixF (fun k=>ixfCIC (.l [[gd ((gd q 0).rows.getD 0 []) 0]]) (sub ((gd p 0).rows.getD k []) 0 2)) 0 (gd p 0).rows.length))):=by kernel_rfl
def cofCIE:Ent:=(132,e2 (sd (.sl 131)) (.one (.c (.fn 218 [.cptr [si,si] 0]))) fun p q=>(⟨rb,[.b (anyS (fun rr=>ixfCIC (gd q 0) (sub rr 0 2)) (gd p 0))]⟩,true))
theorem cofCI_ok:EntOk Tryz.prog cofCIE:=e2_ok fun p q h=>evFn_sound (N:=0) (ks:=cofCIK) (key:=bo) cofCIT_ok (enters Tryz.func132) Tryz.func132 fun hw=>by
 rw [cofCI_ev]
 refine congrArg (fun x=>some (bo,ob x)) ?_
 exact (ixF_any (fun k=>ixfCIC (gd q 0) (sub ((gd p 0).rows.getD k []) 0 2)) (gd p 0).rows.length 0).trans (by simp only [Nat.zero_add]; rfl)
abbrev ixfCOT:FuncId→List T→Option (T × Bool):=find [i_ClientOk_1E]
theorem ixfCOT_ok:CallOk Tryz.prog ixfCOT:=find_ok (fC ⟨i_ClientOk_1_ok,fN⟩)
abbrev ixfCOK:List Nat:= [0,1,4,5,7,8,9,16]
noncomputable def ixfCOL0 (N:Nat) (p q:List D):List D→Out:=loopOf Tryz.prog ixfCOT N ixfCOK Tryz.f203 ri [⟨sd (.sl 141),p⟩,⟨.one (.c (.fn 201 [])),q⟩] 0
theorem ixfCOR0 (N:Nat) (p q:List D) (x0 x1 x2 x3 x4:D):(ixfCOL0 N p q) [x0,x1,x2,x3,x4] =
 bif ltI x4.int x3.int then nd (inRange x4.int x0.rows.length) (bif i_ClientOk_1F (sub (x0.rows.getD x4.int.toNat []) 0 3) then some (1,[x4])
 else nx [x0,x1,x2,x3,.i (w64 (x4.int+1))])
 else ex 0 [x0,x1,x2,x3,x4]:=by kernel_rfl
theorem ixfCO_ev (N:Nat) (p q:List D):evFn Tryz.prog ixfCOT N ixfCOK Tryz.f203 ri [⟨sd (.sl 141),p⟩,⟨.one (.c (.fn 201 [])),q⟩]=some (bo,
 (let o0:=iter (ixfCOL0 N p q) N [gd p 0,gd q 0,.i 0,.i ((gd p 0).rows.length:Int),.i 0]
  nd o0.isSome (bif o0.code==1 then some (1,o0.pay)
  else nd (o0.code==2) (oi (-1))))):=by kernel_rfl
def ixfCOC (c:D) (r:List D):Bool:=i_ClientOk_1F r
def ixfCOE:Ent:=(203,e2 (sd (.sl 141)) (.one (.c (.fn 201 []))) fun p q=>(⟨ri,[.i (ixF (fun k=>ixfCOC (gd q 0) (sub ((gd p 0).rows.getD k []) 0 3)) 0 (gd p 0).rows.length)]⟩,true))
theorem ixfCO_ok:EntOk Tryz.prog ixfCOE:=e2_ok fun p q h=>evFn_sound (N:=(gd p 0).rows.length+1) (ks:=ixfCOK) (key:=bo) ixfCOT_ok (enters Tryz.func203) Tryz.func203 fun hw=>by
 rw [ixfCO_ev]
 have hl:=wt_sl (hw ⟨sd (.sl 141),p⟩ (by simp))
 have e:=ix_loop (L:=ixfCOL0 ((gd p 0).rows.length+1) p q) (fun k => [gd p 0,gd q 0,.i 0,.i ((gd p 0).rows.length:Int),.i (k:Int)]) (gd p 0).rows.length (fun k=>ixfCOC (gd q 0) (sub ((gd p 0).rows.getD k []) 0 3)) [gd p 0,gd q 0,.i 0,.i ((gd p 0).rows.length:Int),.i ((gd p 0).rows.length:Int)] (fun k hk=>?_) ?_ (gd p 0).rows.length 0 ((gd p 0).rows.length+1) (by omega) (by omega)
 ·simp only [Int.natCast_zero] at e
  rw [e]
  have hno:=ixF_neg (fun k=>ixfCOC (gd q 0) (sub ((gd p 0).rows.getD k []) 0 3)) (gd p 0).rows.length 0
  cases hd:decide (ixF (fun k=>ixfCOC (gd q 0) (sub ((gd p 0).rows.getD k []) 0 3)) 0 (gd p 0).rows.length≥0)
  ·rw [hno hd]; rfl
  ·rfl
 ·show ixfCOL0 _ p q [_,_,_,_,.i (k:Int)]=_
  rw [ixfCOR0]
  simp only [int_i,c_lt hk,nd_ix hk,w64_succ hk hl,Int.toNat_natCast]
  unfold ixfCOC
  cases i_ClientOk_1F (sub ((gd p 0).rows.getD k []) 0 3)  <;> rfl
 ·show ixfCOL0 _ p q [_,_,_,.i ((gd p 0).rows.length:Int),.i ((gd p 0).rows.length:Int)]=_
  rw [ixfCOR0]
  simp only [int_i,c_nlt]
abbrev cofCOT:FuncId→List T→Option (T × Bool):=find [ixfCOE,i_ClientOk_1E]
theorem cofCOT_ok:CallOk Tryz.prog cofCOT:=find_ok (fC ⟨ixfCO_ok,fC ⟨i_ClientOk_1_ok,fN⟩⟩)
abbrev cofCOK:List Nat:= [0,1,4]
theorem cofCO_ev (N:Nat) (p q:List D):evFn Tryz.prog cofCOT N cofCOK Tryz.f153 rb [⟨sd (.sl 141),p⟩,⟨.one (.c (.fn 201 [])),q⟩]=some (bo,
 ob (leI 0 (ixF (fun k=>ixfCOC (.l [[]]) (sub ((gd p 0).rows.getD k []) 0 3)) 0 (gd p 0).rows.length))):=by kernel_rfl
def cofCOE:Ent:=(153,e2 (sd (.sl 141)) (.one (.c (.fn 201 []))) fun p q=>(⟨rb,[.b (anyS (fun rr=>ixfCOC (gd q 0) (sub rr 0 3)) (gd p 0))]⟩,true))
theorem cofCO_ok:EntOk Tryz.prog cofCOE:=e2_ok fun p q h=>evFn_sound (N:=0) (ks:=cofCOK) (key:=bo) cofCOT_ok (enters Tryz.func153) Tryz.func153 fun hw=>by
 rw [cofCO_ev]
 refine congrArg (fun x=>some (bo,ob x)) ?_
 exact (ixF_any (fun k=>ixfCOC (gd q 0) (sub ((gd p 0).rows.getD k []) 0 3)) (gd p 0).rows.length 0).trans (by simp only [Nat.zero_add]; rfl)
end Go.Proofs.YtecefnhhlaolmaaGreat
namespace Go.Proofs.YtecefnhhlaolmaaGreat
set_option maxRecDepth 4096
abbrev i_RangesOkT:FuncId→List T→Option (T × Bool):=find [i_RangeOkE]
theorem i_RangesOkT_ok:CallOk Tryz.prog i_RangesOkT:=find_ok (fC ⟨i_RangeOk_ok,fN⟩)
abbrev i_RangesOkK:List Nat:= [0,2,3,4,5,6,7,8,29]
noncomputable def i_RangesOkL0 (N:Nat) (p:List D):List D→Out:=loopOf Tryz.prog i_RangesOkT N i_RangesOkK Tryz.f124 rb [⟨sd (.sl 82),p⟩] 0
theorem i_RangesOkR0 (N:Nat) (p:List D) (x0 x1 x2 x3 x4:D):(i_RangesOkL0 N p) [x0,x1,x2,x3,x4] =
 bif ltI x4.int x3.int then nd (inRange x4.int x2.rows.length) (bif !(rangeOk (sub (x2.rows.getD x4.int.toNat []) 0 2)) then ob false
 else bif ltI 0 x4.int then nd (inRange (w64 (x4.int - 1)) x0.rows.length) (bif ltI (gd (x2.rows.getD x4.int.toNat []) 0).int (gd (x0.rows.getD (w64 (x4.int - 1)).toNat []) 1).int then ob false
 else nx [x0,x1,x2,x3,.i (w64 (x4.int+1))])
 else nx [x0,x1,x2,x3,.i (w64 (x4.int+1))])
 else ex 0 [x0,x1,x2,x3,x4]:=by kernel_rfl
theorem i_RangesOk_ev (N:Nat) (p:List D):evFn Tryz.prog i_RangesOkT N i_RangesOkK Tryz.f124 rb [⟨sd (.sl 82),p⟩]=some (bo,
 (let o0:=iter (i_RangesOkL0 N p) N [gd p 0,.i 0,gd p 0,.i ((gd p 0).rows.length:Int),.i 0]
  nd o0.isSome (bif o0.code==1 then some (1,o0.pay)
  else nd (o0.code==2) (ob (leI ((gd o0.pay 0).rows.length:Int) 16))))):=by kernel_rfl
def rangesAt (z:D):Nat→Bool
 | 0=>rangeOk (sub (z.rows.getD 0 []) 0 2)
 | k+1=>rangeOk (sub (z.rows.getD (k+1) []) 0 2) && !ltI (gd (z.rows.getD (k+1) []) 0).int (gd (z.rows.getD k []) 1).int
def rangesOk (z:D):Bool:=(List.range z.rows.length).all (rangesAt z)&&leI (z.rows.length:Int) 16
def i_RangesOkE:Ent:=(124,e1 (sd (.sl 82)) fun p=>(⟨rb,[.b (rangesOk (gd p 0))]⟩,true))
theorem i_RangesOk_ok:EntOk Tryz.prog i_RangesOkE:=e1_ok fun p h=>evFn_sound (N:=(gd p 0).rows.length+1) (ks:=i_RangesOkK) (key:=bo) i_RangesOkT_ok (enters Tryz.func124) Tryz.func124 fun hw=>by
 rw [i_RangesOk_ev]
 have hl:=wt_sl (hw ⟨sd (.sl 82),p⟩ (by simp))
 have e:=for_loop (L:=i_RangesOkL0 ((gd p 0).rows.length+1) p) (fun k => [(gd p 0),.i 0,(gd p 0),.i ((gd p 0).rows.length:Int),.i (k:Int)]) (gd p 0).rows.length (rangesAt (gd p 0)) [.b false] 0 (fun k hk=>?_) ?_ (N:=((gd p 0).rows.length+1)) (by omega)
 ·simp only [Int.natCast_zero] at e
  rw [e]
  unfold rangesOk
  cases (List.range (gd p 0).rows.length).all (rangesAt (gd p 0)) <;> rfl
 ·cases k with
  | zero =>
   show i_RangesOkL0 _ p [_,_,_,_,.i ((0:Nat):Int)]=_
   rw [i_RangesOkR0]
   simp only [int_i,c_lt hk,nd_ix hk,w64_succ hk hl,Int.toNat_natCast,bne_not,ltI_00,rangesAt]
   cases rangeOk (sub ((gd p 0).rows.getD 0 []) 0 2) <;> rfl
  | succ k =>
   show i_RangesOkL0 _ p [_,_,_,_,.i ((k+1:Nat):Int)]=_
   rw [i_RangesOkR0]
   simp only [int_i,c_lt hk,nd_ix hk,w64_succ hk hl,Int.toNat_natCast,bne_not,ltI_0s,w64_pred (show k+1≤9223372036854775807 from by omega),nd_ix (Nat.lt_of_succ_lt hk),rangesAt]
   cases rangeOk (sub ((gd p 0).rows.getD (k+1) []) 0 2) <;> cases ltI (gd ((gd p 0).rows.getD (k+1) []) 0).int (gd ((gd p 0).rows.getD k []) 1).int <;> rfl
 ·show i_RangesOkL0 _ p [_,_,_,.i ((gd p 0).rows.length:Int),.i ((gd p 0).rows.length:Int)]=_
  rw [i_RangesOkR0]
  simp only [int_i,c_nlt]
abbrev s_RangesOkT:FuncId→List T→Option (T × Bool):=find [s_RangeOkE]
theorem s_RangesOkT_ok:CallOk Tryz.prog s_RangesOkT:=find_ok (fC ⟨s_RangeOk_ok,fN⟩)
abbrev s_RangesOkK:List Nat:= [0,2,3,6,10,36]
noncomputable def s_RangesOkL0 (N:Nat) (p:List D):List D→Out:=loopOf Tryz.prog s_RangesOkT N s_RangesOkK Tryz.f103 rb [⟨sd (.sl 82),p⟩] 0
theorem s_RangesOkR0 (N:Nat) (p:List D) (x0 x1 x2 x3:D):(s_RangesOkL0 N p) [x0,x1,x2,x3] =
 bif ltI x3.int (x0.rows.length:Int) then nd (inRange x3.int x0.rows.length) (bif !(rangeOk (sub (x0.rows.getD x3.int.toNat []) 0 2)) then ob false
 else bif ltI 0 x3.int then nd (inRange x3.int x0.rows.length) (nd (inRange (w64 (x3.int - 1)) x0.rows.length) (bif ltI (gd (x0.rows.getD x3.int.toNat []) 0).int (gd (x0.rows.getD (w64 (x3.int - 1)).toNat []) 1).int then ob false
 else nx [x0,x1,x2,.i (w64 (x3.int+1))]))
 else nx [x0,x1,x2,.i (w64 (x3.int+1))])
 else ex 0 [x0,x1,x2,x3]:=by kernel_rfl
theorem s_RangesOk_ev (N:Nat) (p:List D):evFn Tryz.prog s_RangesOkT N s_RangesOkK Tryz.f103 rb [⟨sd (.sl 82),p⟩]=some (bo,
 bif ltI 16 ((gd p 0).rows.length:Int) then ob false
 else (let o0:=iter (s_RangesOkL0 N p) N [gd p 0,.i 0,.b (ltI 16 ((gd p 0).rows.length:Int)),.i 0]
  nd o0.isSome (bif o0.code==1 then some (1,o0.pay)
  else nd (o0.code==2) (ob true)))):=by kernel_rfl
def s_RangesOkE:Ent:=(103,e1 (sd (.sl 82)) fun p=>(⟨rb,[.b (rangesOk (gd p 0))]⟩,true))
theorem s_RangesOk_ok:EntOk Tryz.prog s_RangesOkE:=e1_ok fun p h=>evFn_sound (N:=(gd p 0).rows.length+1) (ks:=s_RangesOkK) (key:=bo) s_RangesOkT_ok (enters Tryz.func103) Tryz.func103 fun hw=>by
 rw [s_RangesOk_ev]
 have hl:=wt_sl (hw ⟨sd (.sl 82),p⟩ (by simp))
 unfold rangesOk
 by_cases hb:(gd p 0).rows.length≤16
 ·rw [ltI_f (show ((gd p 0).rows.length:Int)≤16 from by omega),leI_t (show ((gd p 0).rows.length:Int)≤16 from by omega),cond_false]
  have e:=for_loop (L:=s_RangesOkL0 ((gd p 0).rows.length+1) p) (fun k => [(gd p 0),.i 0,.b false,.i (k:Int)]) (gd p 0).rows.length (rangesAt (gd p 0)) [.b false] 0 (fun k hk=>?_) ?_ (N:=((gd p 0).rows.length+1)) (by omega)
  ·simp only [Int.natCast_zero] at e
   rw [e]
   cases (List.range (gd p 0).rows.length).all (rangesAt (gd p 0)) <;> rfl
  ·cases k with
   | zero =>
    show s_RangesOkL0 _ p [_,_,_,.i ((0:Nat):Int)]=_
    rw [s_RangesOkR0]
    simp only [int_i,c_lt hk,nd_ix hk,w64_succ hk hl,Int.toNat_natCast,bne_not,ltI_00,rangesAt]
    cases rangeOk (sub ((gd p 0).rows.getD 0 []) 0 2) <;> rfl
   | succ k =>
    show s_RangesOkL0 _ p [_,_,_,.i ((k+1:Nat):Int)]=_
    rw [s_RangesOkR0]
    simp only [int_i,c_lt hk,nd_ix hk,w64_succ hk hl,Int.toNat_natCast,bne_not,ltI_0s,w64_pred (show k+1≤9223372036854775807 from by omega),nd_ix (Nat.lt_of_succ_lt hk),rangesAt]
    cases rangeOk (sub ((gd p 0).rows.getD (k+1) []) 0 2) <;> cases ltI (gd ((gd p 0).rows.getD (k+1) []) 0).int (gd ((gd p 0).rows.getD k []) 1).int <;> rfl
  ·show s_RangesOkL0 _ p [_,_,_,.i ((gd p 0).rows.length:Int)]=_
   rw [s_RangesOkR0]
   simp only [int_i,c_nlt]
 ·rw [ltI_t (show (16:Int)<((gd p 0).rows.length:Int) from by omega),leI_f (show (16:Int)<((gd p 0).rows.length:Int) from by omega),Bool.and_false]
  rfl
abbrev i_StoreOkT:FuncId→List T→Option (T × Bool):=find [i_isKeyE,i_isWholeE]
theorem i_StoreOkT_ok:CallOk Tryz.prog i_StoreOkT:=find_ok (fC ⟨i_isKey_ok,fC ⟨i_isWhole_ok,fN⟩⟩)
abbrev i_StoreOkK:List Nat:= [0,2,3,4,5,6,7,8,36]
noncomputable def i_StoreOkL0 (N:Nat) (p:List D):List D→Out:=loopOf Tryz.prog i_StoreOkT N i_StoreOkK Tryz.f125 rb [⟨sd (.sl 131),p⟩] 0
theorem i_StoreOkR0 (N:Nat) (p:List D) (x0 x1 x2 x3 x4:D):(i_StoreOkL0 N p) [x0,x1,x2,x3,x4] =
 bif ltI x4.int x3.int then nd (inRange x4.int x2.rows.length) (bif !(inB (gd (x2.rows.getD x4.int.toNat []) 0).int (0) (999)) then ob false
 else bif !(inB (gd (x2.rows.getD x4.int.toNat []) 1).int (0) (1000000000)) then ob false
 else bif ltI 0 x4.int then nd (inRange (w64 (x4.int - 1)) x0.rows.length) (bif leI (gd (x2.rows.getD x4.int.toNat []) 0).int (gd (x0.rows.getD (w64 (x4.int - 1)).toNat []) 0).int then ob false
 else nx [x0,x1,x2,x3,.i (w64 (x4.int+1))])
 else nx [x0,x1,x2,x3,.i (w64 (x4.int+1))])
 else ex 0 [x0,x1,x2,x3,x4]:=by kernel_rfl
theorem i_StoreOk_ev (N:Nat) (p:List D):evFn Tryz.prog i_StoreOkT N i_StoreOkK Tryz.f125 rb [⟨sd (.sl 131),p⟩]=some (bo,
 (let o0:=iter (i_StoreOkL0 N p) N [gd p 0,.i 0,gd p 0,.i ((gd p 0).rows.length:Int),.i 0]
  nd o0.isSome (bif o0.code==1 then some (1,o0.pay)
  else nd (o0.code==2) (ob (leI ((gd o0.pay 0).rows.length:Int) 60))))):=by kernel_rfl
def storeAt (z:D):Nat→Bool
 | 0=>inB (gd (z.rows.getD 0 []) 0).int 0 999&&inB (gd (z.rows.getD 0 []) 1).int 0 1000000000
 | k+1=>inB (gd (z.rows.getD (k+1) []) 0).int 0 999&&(inB (gd (z.rows.getD (k+1) []) 1).int 0 1000000000 && !leI (gd (z.rows.getD (k+1) []) 0).int (gd (z.rows.getD k []) 0).int)
def storeOk (z:D):Bool:=(List.range z.rows.length).all (storeAt z)&&leI (z.rows.length:Int) 60
def i_StoreOkE:Ent:=(125,e1 (sd (.sl 131)) fun p=>(⟨rb,[.b (storeOk (gd p 0))]⟩,true))
theorem i_StoreOk_ok:EntOk Tryz.prog i_StoreOkE:=e1_ok fun p h=>evFn_sound (N:=(gd p 0).rows.length+1) (ks:=i_StoreOkK) (key:=bo) i_StoreOkT_ok (enters Tryz.func125) Tryz.func125 fun hw=>by
 rw [i_StoreOk_ev]
 have hl:=wt_sl (hw ⟨sd (.sl 131),p⟩ (by simp))
 have e:=for_loop (L:=i_StoreOkL0 ((gd p 0).rows.length+1) p) (fun k => [(gd p 0),.i 0,(gd p 0),.i ((gd p 0).rows.length:Int),.i (k:Int)]) (gd p 0).rows.length (storeAt (gd p 0)) [.b false] 0 (fun k hk=>?_) ?_ (N:=((gd p 0).rows.length+1)) (by omega)
 ·simp only [Int.natCast_zero] at e
  rw [e]
  unfold storeOk
  cases (List.range (gd p 0).rows.length).all (storeAt (gd p 0)) <;> rfl
 ·cases k with
  | zero =>
   show i_StoreOkL0 _ p [_,_,_,_,.i ((0:Nat):Int)]=_
   rw [i_StoreOkR0]
   simp only [int_i,c_lt hk,nd_ix hk,w64_succ hk hl,Int.toNat_natCast,bne_not,ltI_00,storeAt]
   cases inB (gd ((gd p 0).rows.getD 0 []) 0).int 0 999 <;> cases inB (gd ((gd p 0).rows.getD 0 []) 1).int 0 1000000000 <;> rfl
  | succ k =>
   show i_StoreOkL0 _ p [_,_,_,_,.i ((k+1:Nat):Int)]=_
   rw [i_StoreOkR0]
   simp only [int_i,c_lt hk,nd_ix hk,w64_succ hk hl,Int.toNat_natCast,bne_not,ltI_0s,w64_pred (show k+1≤9223372036854775807 from by omega),nd_ix (Nat.lt_of_succ_lt hk),storeAt]
   cases inB (gd ((gd p 0).rows.getD (k+1) []) 0).int 0 999 <;> cases inB (gd ((gd p 0).rows.getD (k+1) []) 1).int 0 1000000000 <;> cases leI (gd ((gd p 0).rows.getD (k+1) []) 0).int (gd ((gd p 0).rows.getD k []) 0).int <;> rfl
 ·show i_StoreOkL0 _ p [_,_,_,.i ((gd p 0).rows.length:Int),.i ((gd p 0).rows.length:Int)]=_
  rw [i_StoreOkR0]
  simp only [int_i,c_nlt]
abbrev s_StoreOkT:FuncId→List T→Option (T × Bool):=find [s_l10KeyE,s_l1WholeE]
theorem s_StoreOkT_ok:CallOk Tryz.prog s_StoreOkT:=find_ok (fC ⟨s_l10Key_ok,fC ⟨s_l1Whole_ok,fN⟩⟩)
abbrev s_StoreOkK:List Nat:= [0,2,3,6,10,46]
noncomputable def s_StoreOkL0 (N:Nat) (p:List D):List D→Out:=loopOf Tryz.prog s_StoreOkT N s_StoreOkK Tryz.f99 rb [⟨sd (.sl 131),p⟩] 0
theorem s_StoreOkR0 (N:Nat) (p:List D) (x0 x1 x2 x3:D):(s_StoreOkL0 N p) [x0,x1,x2,x3] =
 bif ltI x3.int (x0.rows.length:Int) then nd (inRange x3.int x0.rows.length) (bif !(inB (gd (x0.rows.getD x3.int.toNat []) 0).int (0) (999)) then ob false
 else nd (inRange x3.int x0.rows.length) (bif !(inB (gd (x0.rows.getD x3.int.toNat []) 1).int (0) (1000000000)) then ob false
 else bif ltI 0 x3.int then nd (inRange (w64 (x3.int - 1)) x0.rows.length) (nd (inRange x3.int x0.rows.length) (bif leI (gd (x0.rows.getD x3.int.toNat []) 0).int (gd (x0.rows.getD (w64 (x3.int - 1)).toNat []) 0).int then ob false
 else nx [x0,x1,x2,.i (w64 (x3.int+1))]))
 else nx [x0,x1,x2,.i (w64 (x3.int+1))]))
 else ex 0 [x0,x1,x2,x3]:=by kernel_rfl
theorem s_StoreOk_ev (N:Nat) (p:List D):evFn Tryz.prog s_StoreOkT N s_StoreOkK Tryz.f99 rb [⟨sd (.sl 131),p⟩]=some (bo,
 bif ltI 60 ((gd p 0).rows.length:Int) then ob false
 else (let o0:=iter (s_StoreOkL0 N p) N [gd p 0,.i 0,.b (ltI 60 ((gd p 0).rows.length:Int)),.i 0]
  nd o0.isSome (bif o0.code==1 then some (1,o0.pay)
  else nd (o0.code==2) (ob true)))):=by kernel_rfl
def s_StoreOkE:Ent:=(99,e1 (sd (.sl 131)) fun p=>(⟨rb,[.b (storeOk (gd p 0))]⟩,true))
theorem s_StoreOk_ok:EntOk Tryz.prog s_StoreOkE:=e1_ok fun p h=>evFn_sound (N:=(gd p 0).rows.length+1) (ks:=s_StoreOkK) (key:=bo) s_StoreOkT_ok (enters Tryz.func99) Tryz.func99 fun hw=>by
 rw [s_StoreOk_ev]
 have hl:=wt_sl (hw ⟨sd (.sl 131),p⟩ (by simp))
 unfold storeOk
 by_cases hb:(gd p 0).rows.length≤60
 ·rw [ltI_f (show ((gd p 0).rows.length:Int)≤60 from by omega),leI_t (show ((gd p 0).rows.length:Int)≤60 from by omega),cond_false]
  have e:=for_loop (L:=s_StoreOkL0 ((gd p 0).rows.length+1) p) (fun k => [(gd p 0),.i 0,.b false,.i (k:Int)]) (gd p 0).rows.length (storeAt (gd p 0)) [.b false] 0 (fun k hk=>?_) ?_ (N:=((gd p 0).rows.length+1)) (by omega)
  ·simp only [Int.natCast_zero] at e
   rw [e]
   cases (List.range (gd p 0).rows.length).all (storeAt (gd p 0)) <;> rfl
  ·cases k with
   | zero =>
    show s_StoreOkL0 _ p [_,_,_,.i ((0:Nat):Int)]=_
    rw [s_StoreOkR0]
    simp only [int_i,c_lt hk,nd_ix hk,w64_succ hk hl,Int.toNat_natCast,bne_not,ltI_00,storeAt]
    cases inB (gd ((gd p 0).rows.getD 0 []) 0).int 0 999 <;> cases inB (gd ((gd p 0).rows.getD 0 []) 1).int 0 1000000000 <;> rfl
   | succ k =>
    show s_StoreOkL0 _ p [_,_,_,.i ((k+1:Nat):Int)]=_
    rw [s_StoreOkR0]
    simp only [int_i,c_lt hk,nd_ix hk,w64_succ hk hl,Int.toNat_natCast,bne_not,ltI_0s,w64_pred (show k+1≤9223372036854775807 from by omega),nd_ix (Nat.lt_of_succ_lt hk),storeAt]
    cases inB (gd ((gd p 0).rows.getD (k+1) []) 0).int 0 999 <;> cases inB (gd ((gd p 0).rows.getD (k+1) []) 1).int 0 1000000000 <;> cases leI (gd ((gd p 0).rows.getD (k+1) []) 0).int (gd ((gd p 0).rows.getD k []) 0).int <;> rfl
  ·show s_StoreOkL0 _ p [_,_,_,.i ((gd p 0).rows.length:Int)]=_
   rw [s_StoreOkR0]
   simp only [int_i,c_nlt]
 ·rw [ltI_t (show (60:Int)<((gd p 0).rows.length:Int) from by omega),leI_f (show (60:Int)<((gd p 0).rows.length:Int) from by omega),Bool.and_false]
  rfl
abbrev i_ascendingT:FuncId→List T→Option (T × Bool):=find [i_isTxE]
theorem i_ascendingT_ok:CallOk Tryz.prog i_ascendingT:=find_ok (fC ⟨i_isTx_ok,fN⟩)
abbrev i_ascendingK:List Nat:= [0,2,3,4,5,6,7,8,27]
noncomputable def i_ascendingL0 (N:Nat) (p:List D):List D→Out:=loopOf Tryz.prog i_ascendingT N i_ascendingK Tryz.f128 rb [⟨sd (.sl 3),p⟩] 0
theorem i_ascendingR0 (N:Nat) (p:List D) (x0 x1 x2 x3 x4:D):(i_ascendingL0 N p) [x0,x1,x2,x3,x4] =
 bif ltI x4.int x3.int then nd (inRange x4.int x2.rows.length) (bif !(inB (gd (x2.rows.getD x4.int.toNat []) 0).int 1 60) then ob false
 else bif ltI 0 x4.int then nd (inRange (w64 (x4.int - 1)) x0.rows.length) (bif leI (gd (x2.rows.getD x4.int.toNat []) 0).int (gd (x0.rows.getD (w64 (x4.int - 1)).toNat []) 0).int then ob false
 else nx [x0,x1,x2,x3,.i (w64 (x4.int+1))])
 else nx [x0,x1,x2,x3,.i (w64 (x4.int+1))])
 else ex 0 [x0,x1,x2,x3,x4]:=by kernel_rfl
theorem i_ascending_ev (N:Nat) (p:List D):evFn Tryz.prog i_ascendingT N i_ascendingK Tryz.f128 rb [⟨sd (.sl 3),p⟩]=some (bo,
 (let o0:=iter (i_ascendingL0 N p) N [gd p 0,.i 0,gd p 0,.i ((gd p 0).rows.length:Int),.i 0]
  nd o0.isSome (bif o0.code==1 then some (1,o0.pay)
  else nd (o0.code==2) (ob true)))):=by kernel_rfl
def ascAt (z:D):Nat→Bool
 | 0=>inB (gd (z.rows.getD 0 []) 0).int 1 60
 | k+1=>inB (gd (z.rows.getD (k+1) []) 0).int 1 60 && !leI (gd (z.rows.getD (k+1) []) 0).int (gd (z.rows.getD k []) 0).int
def ascOk (z:D):Bool:=(List.range z.rows.length).all (ascAt z)
def i_ascendingE:Ent:=(128,e1 (sd (.sl 3)) fun p=>(⟨rb,[.b (ascOk (gd p 0))]⟩,true))
theorem i_ascending_ok:EntOk Tryz.prog i_ascendingE:=e1_ok fun p h=>evFn_sound (N:=(gd p 0).rows.length+1) (ks:=i_ascendingK) (key:=bo) i_ascendingT_ok (enters Tryz.func128) Tryz.func128 fun hw=>by
 rw [i_ascending_ev]
 have hl:=wt_sl (hw ⟨sd (.sl 3),p⟩ (by simp))
 have e:=for_loop (L:=i_ascendingL0 ((gd p 0).rows.length+1) p) (fun k => [(gd p 0),.i 0,(gd p 0),.i ((gd p 0).rows.length:Int),.i (k:Int)]) (gd p 0).rows.length (ascAt (gd p 0)) [.b false] 0 (fun k hk=>?_) ?_ (N:=((gd p 0).rows.length+1)) (by omega)
 ·simp only [Int.natCast_zero] at e
  rw [e]
  unfold ascOk
  cases (List.range (gd p 0).rows.length).all (ascAt (gd p 0)) <;> rfl
 ·cases k with
  | zero =>
   show i_ascendingL0 _ p [_,_,_,_,.i ((0:Nat):Int)]=_
   rw [i_ascendingR0]
   simp only [int_i,c_lt hk,nd_ix hk,w64_succ hk hl,Int.toNat_natCast,bne_not,ltI_00,ascAt]
   cases inB (gd ((gd p 0).rows.getD 0 []) 0).int 1 60 <;> rfl
  | succ k =>
   show i_ascendingL0 _ p [_,_,_,_,.i ((k+1:Nat):Int)]=_
   rw [i_ascendingR0]
   simp only [int_i,c_lt hk,nd_ix hk,w64_succ hk hl,Int.toNat_natCast,bne_not,ltI_0s,w64_pred (show k+1≤9223372036854775807 from by omega),nd_ix (Nat.lt_of_succ_lt hk),ascAt]
   cases inB (gd ((gd p 0).rows.getD (k+1) []) 0).int 1 60 <;> cases leI (gd ((gd p 0).rows.getD (k+1) []) 0).int (gd ((gd p 0).rows.getD k []) 0).int <;> rfl
 ·show i_ascendingL0 _ p [_,_,_,.i ((gd p 0).rows.length:Int),.i ((gd p 0).rows.length:Int)]=_
  rw [i_ascendingR0]
  simp only [int_i,c_nlt]
abbrev s_l13TxsT:FuncId→List T→Option (T × Bool):=find [s_l12TxE]
theorem s_l13TxsT_ok:CallOk Tryz.prog s_l13TxsT:=find_ok (fC ⟨s_l12Tx_ok,fN⟩)
abbrev s_l13TxsK:List Nat:= [0,2,3,7,31]
noncomputable def s_l13TxsL0 (N:Nat) (p:List D):List D→Out:=loopOf Tryz.prog s_l13TxsT N s_l13TxsK Tryz.f105 rb [⟨sd (.sl 3),p⟩] 0
theorem s_l13TxsR0 (N:Nat) (p:List D) (x0 x1 x2:D):(s_l13TxsL0 N p) [x0,x1,x2] =
 bif ltI x2.int (x0.rows.length:Int) then nd (inRange x2.int x0.rows.length) (bif !(inB (gd (x0.rows.getD x2.int.toNat []) 0).int 1 60) then ob false
 else bif ltI 0 x2.int then nd (inRange (w64 (x2.int - 1)) x0.rows.length) (nd (inRange x2.int x0.rows.length) (bif leI (gd (x0.rows.getD x2.int.toNat []) 0).int (gd (x0.rows.getD (w64 (x2.int - 1)).toNat []) 0).int then ob false
 else nx [x0,x1,.i (w64 (x2.int+1))]))
 else nx [x0,x1,.i (w64 (x2.int+1))])
 else ex 0 [x0,x1,x2]:=by kernel_rfl
theorem s_l13Txs_ev (N:Nat) (p:List D):evFn Tryz.prog s_l13TxsT N s_l13TxsK Tryz.f105 rb [⟨sd (.sl 3),p⟩]=some (bo,
 (let o0:=iter (s_l13TxsL0 N p) N [gd p 0,.i 0,.i 0]
  nd o0.isSome (bif o0.code==1 then some (1,o0.pay)
  else nd (o0.code==2) (ob true)))):=by kernel_rfl
def s_l13TxsE:Ent:=(105,e1 (sd (.sl 3)) fun p=>(⟨rb,[.b (ascOk (gd p 0))]⟩,true))
theorem s_l13Txs_ok:EntOk Tryz.prog s_l13TxsE:=e1_ok fun p h=>evFn_sound (N:=(gd p 0).rows.length+1) (ks:=s_l13TxsK) (key:=bo) s_l13TxsT_ok (enters Tryz.func105) Tryz.func105 fun hw=>by
 rw [s_l13Txs_ev]
 have hl:=wt_sl (hw ⟨sd (.sl 3),p⟩ (by simp))
 have e:=for_loop (L:=s_l13TxsL0 ((gd p 0).rows.length+1) p) (fun k => [(gd p 0),.i 0,.i (k:Int)]) (gd p 0).rows.length (ascAt (gd p 0)) [.b false] 0 (fun k hk=>?_) ?_ (N:=((gd p 0).rows.length+1)) (by omega)
 ·simp only [Int.natCast_zero] at e
  rw [e]
  unfold ascOk
  cases (List.range (gd p 0).rows.length).all (ascAt (gd p 0)) <;> rfl
 ·cases k with
  | zero =>
   show s_l13TxsL0 _ p [_,_,.i ((0:Nat):Int)]=_
   rw [s_l13TxsR0]
   simp only [int_i,c_lt hk,nd_ix hk,w64_succ hk hl,Int.toNat_natCast,bne_not,ltI_00,ascAt]
   cases inB (gd ((gd p 0).rows.getD 0 []) 0).int 1 60 <;> rfl
  | succ k =>
   show s_l13TxsL0 _ p [_,_,.i ((k+1:Nat):Int)]=_
   rw [s_l13TxsR0]
   simp only [int_i,c_lt hk,nd_ix hk,w64_succ hk hl,Int.toNat_natCast,bne_not,ltI_0s,w64_pred (show k+1≤9223372036854775807 from by omega),nd_ix (Nat.lt_of_succ_lt hk),ascAt]
   cases inB (gd ((gd p 0).rows.getD (k+1) []) 0).int 1 60 <;> cases leI (gd ((gd p 0).rows.getD (k+1) []) 0).int (gd ((gd p 0).rows.getD k []) 0).int <;> rfl
 ·show s_l13TxsL0 _ p [_,_,.i ((gd p 0).rows.length:Int)]=_
  rw [s_l13TxsR0]
  simp only [int_i,c_nlt]
abbrev s_l16SeenOkT:FuncId→List T→Option (T × Bool):=find [s_l15GroupE,s_l16RangeOkE]
theorem s_l16SeenOkT_ok:CallOk Tryz.prog s_l16SeenOkT:=find_ok (fC ⟨s_l15Group_ok,fC ⟨s_l16RangeOk_ok,fN⟩⟩)
abbrev s_l16SeenOkK:List Nat:= [0,2,3,6,10,33]
noncomputable def s_l16SeenOkL0 (N:Nat) (p:List D):List D→Out:=loopOf Tryz.prog s_l16SeenOkT N s_l16SeenOkK Tryz.f180 rb [⟨sd (.sl 141),p⟩] 0
theorem s_l16SeenOkR0 (N:Nat) (p:List D) (x0 x1 x2 x3:D):(s_l16SeenOkL0 N p) [x0,x1,x2,x3] =
 bif ltI x3.int (x0.rows.length:Int) then nd (inRange x3.int x0.rows.length) (bif !(inB (gd (x0.rows.getD x3.int.toNat []) 0).int 0 3) then ob false
 else nd (inRange x3.int x0.rows.length) (nd (inRange x3.int x0.rows.length) (bif !(rangeOk [(gd (x0.rows.getD x3.int.toNat []) 1),(gd (x0.rows.getD x3.int.toNat []) 2)]) then ob false
 else nx [x0,x1,x2,.i (w64 (x3.int+1))])))
 else ex 0 [x0,x1,x2,x3]:=by kernel_rfl
theorem s_l16SeenOk_ev (N:Nat) (p:List D):evFn Tryz.prog s_l16SeenOkT N s_l16SeenOkK Tryz.f180 rb [⟨sd (.sl 141),p⟩]=some (bo,
 bif ltI 16 ((gd p 0).rows.length:Int) then ob false
 else (let o0:=iter (s_l16SeenOkL0 N p) N [gd p 0,.i 0,.b (ltI 16 ((gd p 0).rows.length:Int)),.i 0]
  nd o0.isSome (bif o0.code==1 then some (1,o0.pay)
  else nd (o0.code==2) (ob true)))):=by kernel_rfl
def seenAt (z:D) (k:Nat):Bool:=inB (gd (z.rows.getD k []) 0).int 0 3&&rangeOk [gd (z.rows.getD k []) 1,gd (z.rows.getD k []) 2]
def seenOk (z:D):Bool:=(List.range z.rows.length).all (seenAt z)&&leI (z.rows.length:Int) 16
def s_l16SeenOkE:Ent:=(180,e1 (sd (.sl 141)) fun p=>(⟨rb,[.b (seenOk (gd p 0))]⟩,true))
theorem s_l16SeenOk_ok:EntOk Tryz.prog s_l16SeenOkE:=e1_ok fun p h=>evFn_sound (N:=(gd p 0).rows.length+1) (ks:=s_l16SeenOkK) (key:=bo) s_l16SeenOkT_ok (enters Tryz.func180) Tryz.func180 fun hw=>by
 rw [s_l16SeenOk_ev]
 have hl:=wt_sl (hw ⟨sd (.sl 141),p⟩ (by simp))
 unfold seenOk
 by_cases hb:(gd p 0).rows.length≤16
 ·rw [ltI_f (show ((gd p 0).rows.length:Int)≤16 from by omega),leI_t (show ((gd p 0).rows.length:Int)≤16 from by omega),cond_false]
  have e:=for_loop (L:=s_l16SeenOkL0 ((gd p 0).rows.length+1) p) (fun k => [(gd p 0),.i 0,.b false,.i (k:Int)]) (gd p 0).rows.length (seenAt (gd p 0)) [.b false] 0 (fun k hk=>?_) ?_ (N:=((gd p 0).rows.length+1)) (by omega)
  ·simp only [Int.natCast_zero] at e
   rw [e]
   cases (List.range (gd p 0).rows.length).all (seenAt (gd p 0)) <;> rfl
  ·show s_l16SeenOkL0 _ p [_,_,_,.i (k:Int)]=_
   rw [s_l16SeenOkR0]
   simp only [int_i,c_lt hk,nd_ix hk,w64_succ hk hl,Int.toNat_natCast,bne_not,seenAt]
   cases inB (gd ((gd p 0).rows.getD k []) 0).int 0 3 <;> cases rangeOk [gd ((gd p 0).rows.getD k []) 1,gd ((gd p 0).rows.getD k []) 2] <;> rfl
  ·show s_l16SeenOkL0 _ p [_,_,_,.i ((gd p 0).rows.length:Int)]=_
   rw [s_l16SeenOkR0]
   simp only [int_i,c_nlt]
 ·rw [ltI_t (show (16:Int)<((gd p 0).rows.length:Int) from by omega),leI_f (show (16:Int)<((gd p 0).rows.length:Int) from by omega),Bool.and_false]
  rfl
abbrev s_l16OwnersInT:FuncId→List T→Option (T × Bool):=find []
theorem s_l16OwnersInT_ok:CallOk Tryz.prog s_l16OwnersInT:=find_ok (fN)
abbrev s_l16OwnersInK:List Nat:= [0,1,4,5,9,18]
noncomputable def s_l16OwnersInL0 (N:Nat) (p q:List D):List D→Out:=loopOf Tryz.prog s_l16OwnersInT N s_l16OwnersInK Tryz.f47 rb [⟨sd (.sl 62),p⟩,⟨ri,q⟩] 0
theorem s_l16OwnersInR0 (N:Nat) (p q:List D) (x0 x1 x2 x3:D):(s_l16OwnersInL0 N p q) [x0,x1,x2,x3] =
 bif ltI x3.int (x0.rows.length:Int) then nd (inRange x3.int x0.rows.length) (bif leI x1.int (gd (x0.rows.getD x3.int.toNat []) 2).int then ob false
 else nx [x0,x1,x2,.i (w64 (x3.int+1))])
 else ex 0 [x0,x1,x2,x3]:=by kernel_rfl
theorem s_l16OwnersIn_ev (N:Nat) (p q:List D):evFn Tryz.prog s_l16OwnersInT N s_l16OwnersInK Tryz.f47 rb [⟨sd (.sl 62),p⟩,⟨ri,q⟩]=some (bo,
 (let o0:=iter (s_l16OwnersInL0 N p q) N [gd p 0,gd q 0,.i 0,.i 0]
  nd o0.isSome (bif o0.code==1 then some (1,o0.pay)
  else nd (o0.code==2) (ob true)))):=by kernel_rfl
def ownersIn (z:D) (n:Int):Bool:=(List.range z.rows.length).all fun k => !leI n (gd (z.rows.getD k []) 2).int
def s_l16OwnersInE:Ent:=(47,e2 (sd (.sl 62)) ri fun p q=>(⟨rb,[.b (ownersIn (gd p 0) (gd q 0).int)]⟩,true))
theorem s_l16OwnersIn_ok:EntOk Tryz.prog s_l16OwnersInE:=e2_ok fun p q h=>evFn_sound (N:=(gd p 0).rows.length+1) (ks:=s_l16OwnersInK) (key:=bo) s_l16OwnersInT_ok (enters Tryz.func47) Tryz.func47 fun hw=>by
 rw [s_l16OwnersIn_ev]
 have hl:=wt_sl (hw ⟨sd (.sl 62),p⟩ (by simp))
 have e:=for_loop (L:=s_l16OwnersInL0 ((gd p 0).rows.length+1) p q) (fun k => [(gd p 0),(gd q 0),.i 0,.i (k:Int)]) (gd p 0).rows.length (fun k => !leI (gd q 0).int (gd ((gd p 0).rows.getD k []) 2).int) [.b false] 0 (fun k hk=>?_) ?_ (N:=((gd p 0).rows.length+1)) (by omega)
 ·simp only [Int.natCast_zero] at e
  rw [e]
  unfold ownersIn
  cases (List.range (gd p 0).rows.length).all (fun k => !leI (gd q 0).int (gd ((gd p 0).rows.getD k []) 2).int) <;> rfl
 ·show s_l16OwnersInL0 _ p q [_,_,_,.i (k:Int)]=_
  rw [s_l16OwnersInR0]
  simp only [int_i,c_lt hk,nd_ix hk,w64_succ hk hl,Int.toNat_natCast,bne_not]
  cases leI (gd q 0).int (gd ((gd p 0).rows.getD k []) 2).int <;> rfl
 ·show s_l16OwnersInL0 _ p q [_,_,_,.i ((gd p 0).rows.length:Int)]=_
  rw [s_l16OwnersInR0]
  simp only [int_i,c_nlt]
abbrev s_l15InT:FuncId→List T→Option (T × Bool):=find [s_l1InE]
theorem s_l15InT_ok:CallOk Tryz.prog s_l15InT:=find_ok (fC ⟨s_l1In_ok,fN⟩)
abbrev s_l15InK:List Nat:= [0,1,3,4,5,9,23]
noncomputable def s_l15InL0 (N:Nat) (p q:List D):List D→Out:=loopOf Tryz.prog s_l15InT N s_l15InK Tryz.f102 rb [⟨sd (.sl 131),p⟩,⟨ag rIMove,q⟩] 0
theorem s_l15InR0 (N:Nat) (p q:List D) (x0 x1 x2 x3 x4 x5 x6 x7 x8 x9 x10 x11 x12 x13 x14 x15 x16 x17:D):(s_l15InL0 N p q) [x0,x1,x2,x3,x4,x5,x6,x7,x8,x9,x10,x11,x12,x13,x14,x15,x16,x17] =
 bif ltI x10.int (x0.rows.length:Int) then nd (inRange x10.int x0.rows.length) (bif !(inB (gd (x0.rows.getD x10.int.toNat []) 0).int x13.int (w64 (x14.int - 1))) then ob false
 else nx [x0,x1,x2,x3,x4,x5,x6,x7,x8,x9,.i (w64 (x10.int+1)),x11,x12,x13,x14,x15,x16,x17])
 else ex 0 [x0,x1,x2,x3,x4,x5,x6,x7,x8,x9,x10,x11,x12,x13,x14,x15,x16,x17]:=by kernel_rfl
theorem s_l15In_ev (N:Nat) (p q:List D):evFn Tryz.prog s_l15InT N s_l15InK Tryz.f102 rb [⟨sd (.sl 131),p⟩,⟨ag rIMove,q⟩]=some (bo,
 (let o0:=iter (s_l15InL0 N p q) N [gd p 0,gd q 0,gd q 1,gd q 2,gd q 3,gd q 4,gd q 5,gd q 6,.i 0,.i 0,.i 0,gd q 0,gd q 1,gd q 2,gd q 3,gd q 4,gd q 5,gd q 6]
  nd o0.isSome (bif o0.code==1 then some (1,o0.pay)
  else nd (o0.code==2) (ob true)))):=by kernel_rfl
def cellsInS (z:D) (q:List D):Bool:=(List.range z.rows.length).all fun k=>inB (gd (z.rows.getD k []) 0).int (gd q 2).int (w64 ((gd q 3).int - 1))
def s_l15InE:Ent:=(102,e2 (sd (.sl 131)) (ag rIMove) fun p q=>(⟨rb,[.b (cellsInS (gd p 0) q)]⟩,true))
theorem s_l15In_ok:EntOk Tryz.prog s_l15InE:=e2_ok fun p q h=>evFn_sound (N:=(gd p 0).rows.length+1) (ks:=s_l15InK) (key:=bo) s_l15InT_ok (enters Tryz.func102) Tryz.func102 fun hw=>by
 rw [s_l15In_ev]
 have hl:=wt_sl (hw ⟨sd (.sl 131),p⟩ (by simp))
 have e:=for_loop (L:=s_l15InL0 ((gd p 0).rows.length+1) p q) (fun k => [(gd p 0),(gd q 0),(gd q 1),(gd q 2),(gd q 3),(gd q 4),(gd q 5),(gd q 6),.i 0,.i 0,.i (k:Int),(gd q 0),(gd q 1),(gd q 2),(gd q 3),(gd q 4),(gd q 5),(gd q 6)]) (gd p 0).rows.length (fun k=>inB (gd ((gd p 0).rows.getD k []) 0).int (gd q 2).int (w64 ((gd q 3).int - 1))) [.b false] 0 (fun k hk=>?_) ?_ (N:=((gd p 0).rows.length+1)) (by omega)
 ·simp only [Int.natCast_zero] at e
  rw [e]
  unfold cellsInS
  cases (List.range (gd p 0).rows.length).all (fun k=>inB (gd ((gd p 0).rows.getD k []) 0).int (gd q 2).int (w64 ((gd q 3).int - 1))) <;> rfl
 ·show s_l15InL0 _ p q [_,_,_,_,_,_,_,_,_,_,.i (k:Int),_,_,_,_,_,_,_]=_
  rw [s_l15InR0]
  simp only [int_i,c_lt hk,nd_ix hk,w64_succ hk hl,Int.toNat_natCast,bne_not]
  cases inB (gd ((gd p 0).rows.getD k []) 0).int (gd q 2).int (w64 ((gd q 3).int - 1)) <;> rfl
 ·show s_l15InL0 _ p q [_,_,_,_,_,_,_,_,_,_,.i ((gd p 0).rows.length:Int),_,_,_,_,_,_,_]=_
  rw [s_l15InR0]
  simp only [int_i,c_nlt]
end Go.Proofs.YtecefnhhlaolmaaGreat
namespace Go.Proofs.YtecefnhhlaolmaaGreat
set_option maxRecDepth 4096
abbrev i_PartsOkT:FuncId→List T→Option (T × Bool):=find [i_isGroupE,i_fromE]
theorem i_PartsOkT_ok:CallOk Tryz.prog i_PartsOkT:=find_ok (fC ⟨i_isGroup_ok,fC ⟨i_from_ok,fN⟩⟩)
abbrev i_PartsOkK:List Nat:= [0,2,3,5,6,7,8,9,28]
noncomputable def i_PartsOkL0 (N:Nat) (p:List D):List D→Out:=loopOf Tryz.prog i_PartsOkT N i_PartsOkK Tryz.f55 rb [⟨sd (.sl 62),p⟩] 0
theorem i_PartsOkR0 (N:Nat) (p:List D) (x0 x1 x2 x3 x4 x5:D):(i_PartsOkL0 N p) [x0,x1,x2,x3,x4,x5] =
 bif ltI x5.int x4.int then nd (inRange x5.int x3.rows.length) (bif (gd (x3.rows.getD x5.int.toNat []) 0).int != x2.int then ob false
 else bif leI (gd (x3.rows.getD x5.int.toNat []) 1).int (gd (x3.rows.getD x5.int.toNat []) 0).int then ob false
 else bif !(inB (gd (x3.rows.getD x5.int.toNat []) 2).int (0) (3)) then ob false
 else nx [x0,x1,gd (x3.rows.getD x5.int.toNat []) 1,x3,x4,.i (w64 (x5.int+1))])
 else ex 0 [x0,x1,x2,x3,x4,x5]:=by kernel_rfl
theorem i_PartsOk_ev (N:Nat) (p:List D):evFn Tryz.prog i_PartsOkT N i_PartsOkK Tryz.f55 rb [⟨sd (.sl 62),p⟩]=some (bo,
 (let o0:=iter (i_PartsOkL0 N p) N [gd p 0,.i 0,.i 0,gd p 0,.i ((gd p 0).rows.length:Int),.i 0]
  nd o0.isSome (bif o0.code==1 then some (1,o0.pay)
  else nd (o0.code==2) (bif inB ((gd o0.pay 0).rows.length:Int) 1 16 then ob ((gd o0.pay 2).int==1000)
  else ob false)))):=by kernel_rfl
def endD (z:D):Nat→D
 | 0=>.i 0
 | k+1=>gd (z.rows.getD k []) 1
def partAt (z:D) (k:Nat):Bool:=((gd (z.rows.getD k []) 0).int==(endD z k).int)&&(!leI (gd (z.rows.getD k []) 1).int (gd (z.rows.getD k []) 0).int&&inB (gd (z.rows.getD k []) 2).int 0 3)
def partsOk (z:D):Bool:=(List.range z.rows.length).all (partAt z)&&(inB (z.rows.length:Int) 1 16&&(endD z z.rows.length).int==1000)
def i_PartsOkE:Ent:=(55,e1 (sd (.sl 62)) fun p=>(⟨rb,[.b (partsOk (gd p 0))]⟩,true))
theorem i_PartsOk_ok:EntOk Tryz.prog i_PartsOkE:=e1_ok fun p h=>evFn_sound (N:=(gd p 0).rows.length+1) (ks:=i_PartsOkK) (key:=bo) i_PartsOkT_ok (enters Tryz.func55) Tryz.func55 fun hw=>by
 rw [i_PartsOk_ev]
 have hl:=wt_sl (hw ⟨sd (.sl 62),p⟩ (by simp))
 have e:=for_loop (L:=i_PartsOkL0 ((gd p 0).rows.length+1) p) (fun k => [gd p 0,.i 0,endD (gd p 0) k,gd p 0,.i ((gd p 0).rows.length:Int),.i (k:Int)]) (gd p 0).rows.length (partAt (gd p 0)) [.b false] 0 (fun k hk=>?_) ?_ (N:=(gd p 0).rows.length+1) (by omega)
 ·simp only [Int.natCast_zero] at e
  rw [show endD (gd p 0) 0=.i 0 from rfl] at e
  rw [e]
  unfold partsOk
  cases (List.range (gd p 0).rows.length).all (partAt (gd p 0))
  ·rfl
  ·simp only [nd,cond_true,cond_false,Option.isSome_some,Out.code,Out.pay,Option.getD_some,gd_cons_zero,gd_cons_succ,Nat.reduceBEq,Nat.reduceAdd,int_i,bool_b,str_s,rows_l,Bool.not_true,Bool.not_false,beq_self_eq_true,Bool.true_and]
   cases inB ((gd p 0).rows.length:Int) 1 16 <;> rfl
 ·show i_PartsOkL0 _ p [_,_,_,_,_,.i (k:Int)]=_
  rw [i_PartsOkR0]
  simp only [int_i,c_lt hk,nd_ix hk,w64_succ hk hl,Int.toNat_natCast,bne_not,partAt]
  cases (gd ((gd p 0).rows.getD k []) 0).int==(endD (gd p 0) k).int <;> cases leI (gd ((gd p 0).rows.getD k []) 1).int (gd ((gd p 0).rows.getD k []) 0).int <;> cases inB (gd ((gd p 0).rows.getD k []) 2).int 0 3 <;> rfl
 ·show i_PartsOkL0 _ p [_,_,_,_,.i ((gd p 0).rows.length:Int),.i ((gd p 0).rows.length:Int)]=_
  rw [i_PartsOkR0]
  simp only [int_i,c_nlt]
abbrev s_PartsOkT:FuncId→List T→Option (T × Bool):=find [s_l1InE]
theorem s_PartsOkT_ok:CallOk Tryz.prog s_PartsOkT:=find_ok (fC ⟨s_l1In_ok,fN⟩)
abbrev s_PartsOkK:List Nat:= [0,2,3,4,5,26,29,71]
noncomputable def s_PartsOkL0 (N:Nat) (p:List D):List D→Out:=loopOf Tryz.prog s_PartsOkT N s_PartsOkK Tryz.f45 rb [⟨sd (.sl 62),p⟩] 0
theorem s_PartsOkR0 (N:Nat) (p:List D) (x0 x1 x2 x3 x4:D):(s_PartsOkL0 N p) [x0,x1,x2,x3,x4] =
 bif ltI x4.int x2.int then nd (inRange x4.int x0.rows.length) (bif leI (gd (x0.rows.getD x4.int.toNat []) 1).int (gd (x0.rows.getD x4.int.toNat []) 0).int then ob false
 else bif ltI (gd (x0.rows.getD x4.int.toNat []) 0).int 0 then ob false
 else bif ltI 1000 (gd (x0.rows.getD x4.int.toNat []) 1).int then ob false
 else bif !(inB (gd (x0.rows.getD x4.int.toNat []) 2).int 0 3) then ob false
 else bif ltI 0 x4.int then nd (inRange (w64 (x4.int - 1)) x0.rows.length) (bif (gd (x0.rows.getD (w64 (x4.int - 1)).toNat []) 1).int != (gd (x0.rows.getD x4.int.toNat []) 0).int then ob false
 else nx [x0,x1,x2,x3,.i (w64 (x4.int+1))])
 else nx [x0,x1,x2,x3,.i (w64 (x4.int+1))])
 else ex 0 [x0,x1,x2,x3,x4]:=by kernel_rfl
theorem s_PartsOk_ev (N:Nat) (p:List D):evFn Tryz.prog s_PartsOkT N s_PartsOkK Tryz.f45 rb [⟨sd (.sl 62),p⟩]=some (bo,
 bif !(inB ((gd p 0).rows.length:Int) 1 16) then ob false
 else nd (inRange 0 (gd p 0).rows.length) (bif (gd ((gd p 0).rows.getD 0 []) 0).int != 0 then ob false
 else nd (inRange (w64 (((gd p 0).rows.length:Int) - 1)) (gd p 0).rows.length) (bif (gd ((gd p 0).rows.getD (w64 (((gd p 0).rows.length:Int) - 1)).toNat []) 1).int != 1000 then ob false
 else (let o0:=iter (s_PartsOkL0 N p) N [gd p 0,.i 0,.i ((gd p 0).rows.length:Int),.b ((gd ((gd p 0).rows.getD (w64 (((gd p 0).rows.length:Int) - 1)).toNat []) 1).int != 1000),.i 0]
  nd o0.isSome (bif o0.code==1 then some (1,o0.pay)
  else nd (o0.code==2) (ob true)))))):=by kernel_rfl
def partAtS (z:D):Nat→Bool
 | 0 => !leI (gd (z.rows.getD 0 []) 1).int (gd (z.rows.getD 0 []) 0).int&&(!ltI (gd (z.rows.getD 0 []) 0).int 0&&(!ltI 1000 (gd (z.rows.getD 0 []) 1).int&&inB (gd (z.rows.getD 0 []) 2).int 0 3))
 | k+1 => !leI (gd (z.rows.getD (k+1) []) 1).int (gd (z.rows.getD (k+1) []) 0).int&&(!ltI (gd (z.rows.getD (k+1) []) 0).int 0&&(!ltI 1000 (gd (z.rows.getD (k+1) []) 1).int&&(inB (gd (z.rows.getD (k+1) []) 2).int 0 3&&((gd (z.rows.getD k []) 1).int==(gd (z.rows.getD (k+1) []) 0).int))))
theorem parts_same (z:D) (n:Nat) (hn:z.rows.length=n+1):((List.range z.rows.length).all (partAt z)&&(endD z z.rows.length).int==1000)=(((gd (z.rows.getD 0 []) 0).int==0)&&(((gd (z.rows.getD n []) 1).int==1000)&&(List.range z.rows.length).all (partAtS z))):=by
 rw [hn,Bool.eq_iff_iff]
 simp only [Bool.and_eq_true,List.all_eq_true,List.mem_range,beq_iff_eq,endD]
 constructor
 ·rintro ⟨h,h1⟩
  have hp:∀ k,k<n+1→(gd (z.rows.getD k []) 0).int=(endD z k).int∧(gd (z.rows.getD k []) 0).int<(gd (z.rows.getD k []) 1).int∧inB (gd (z.rows.getD k []) 2).int 0 3=true:=fun k hk=>by
   have:=h k hk
   simp only [partAt,leI,Bool.and_eq_true,beq_iff_eq,Bool.not_eq_true',decide_eq_false_iff_not] at this
   exact ⟨this.1,by omega,this.2.2⟩
  have hlo:∀ k,k<n+1→0≤(gd (z.rows.getD k []) 0).int:=by
   intro k
   induction k with
   | zero=>intro hk; have h0:=(hp 0 hk).1; simp only [endD,int_i] at h0; rw [h0]; exact Int.le_refl 0
   | succ k ih =>
    intro hk
    have a:=hp k (by omega); have b:=hp (k+1) hk; have c:=ih (by omega)
    simp only [endD] at b
    omega
  have hhi:∀ m k,k+m=n→(gd (z.rows.getD k []) 1).int≤1000:=by
   intro m
   induction m with
   | zero =>
    intro k hk
    have hkn:k=n:=by omega
    subst hkn
    omega
   | succ m ih =>
    intro k hk
    have a:=ih (k+1) (by omega)
    have b:=hp (k+1) (by omega)
    simp only [endD] at b
    omega
  refine ⟨by have h0:=(hp 0 (by omega)).1; simp only [endD,int_i] at h0; exact h0,h1,fun k hk=>?_⟩
  have a:=hp k hk
  have b:=hlo k hk
  have c:=hhi (n - k) k (by omega)
  cases k with
  | zero =>
   simp only [partAtS,leI,ltI,Bool.and_eq_true,Bool.not_eq_true',decide_eq_false_iff_not]
   exact ⟨by omega,by omega,by omega,a.2.2⟩
  | succ k =>
   simp only [endD] at a
   simp only [partAtS,leI,ltI,Bool.and_eq_true,Bool.not_eq_true',decide_eq_false_iff_not,beq_iff_eq]
   exact ⟨by omega,by omega,by omega,a.2.2,by omega⟩
 ·rintro ⟨h0,h1,h⟩
  refine ⟨fun k hk=>?_,h1⟩
  have a:=h k hk
  cases k with
  | zero =>
   simp only [partAtS,leI,ltI,Bool.and_eq_true,Bool.not_eq_true',decide_eq_false_iff_not] at a
   simp only [partAt,leI,Bool.and_eq_true,beq_iff_eq,Bool.not_eq_true',decide_eq_false_iff_not,endD,int_i]
   exact ⟨h0,a.1,a.2.2.2⟩
  | succ k =>
   simp only [partAtS,leI,ltI,Bool.and_eq_true,Bool.not_eq_true',decide_eq_false_iff_not,beq_iff_eq] at a
   simp only [partAt,leI,Bool.and_eq_true,beq_iff_eq,Bool.not_eq_true',decide_eq_false_iff_not,endD]
   exact ⟨a.2.2.2.2.symm,a.1,a.2.2.2.1⟩
def s_PartsOkE:Ent:=(45,e1 (sd (.sl 62)) fun p=>(⟨rb,[.b (partsOk (gd p 0))]⟩,true))
theorem s_PartsOk_ok:EntOk Tryz.prog s_PartsOkE:=e1_ok fun p h=>evFn_sound (N:=(gd p 0).rows.length+1) (ks:=s_PartsOkK) (key:=bo) s_PartsOkT_ok (enters Tryz.func45) Tryz.func45 fun hw=>by
 rw [s_PartsOk_ev]
 have hl:=wt_sl (hw ⟨sd (.sl 62),p⟩ (by simp))
 unfold partsOk
 cases hb:inB ((gd p 0).rows.length:Int) 1 16
 ·rw [Bool.false_and,Bool.and_false]; rfl
 ·have hb':=hb
  simp only [inB,Bool.and_eq_true,decide_eq_true_eq] at hb'
  obtain ⟨n,hn⟩:∃ n,(gd p 0).rows.length=n+1:=⟨(gd p 0).rows.length - 1,by omega⟩
  rw [Bool.true_and,parts_same _ n hn]
  have hw1:w64 (((gd p 0).rows.length:Int) - 1)=(n:Int):=by rw [hn]; exact w64_pred (by omega)
  rw [hw1,nd_ix (show n<(gd p 0).rows.length from by omega),Int.toNat_natCast,show inRange 0 (gd p 0).rows.length=true from inRange_nat (k:=0) (by omega),nd_true,bne_not,bne_not]
  cases (gd ((gd p 0).rows.getD 0 []) 0).int==0
  ·rfl
  cases (gd ((gd p 0).rows.getD n []) 1).int==1000
  ·rfl
  have e:=for_loop (L:=s_PartsOkL0 ((gd p 0).rows.length+1) p) (fun k => [gd p 0,.i 0,.i ((gd p 0).rows.length:Int),.b false,.i (k:Int)]) (gd p 0).rows.length (partAtS (gd p 0)) [.b false] 0 (fun k hk=>?_) ?_ (N:=(gd p 0).rows.length+1) (by omega)
  ·simp only [Int.natCast_zero] at e
   simp only [Bool.not_true,Bool.not_false,cond_false,cond_true,e,Bool.true_and]
   cases (List.range (gd p 0).rows.length).all (partAtS (gd p 0)) <;> rfl
  ·cases k with
   | zero =>
    show s_PartsOkL0 _ p [_,_,_,_,.i ((0:Nat):Int)]=_
    rw [s_PartsOkR0]
    simp only [int_i,c_lt hk,nd_ix hk,w64_succ hk hl,Int.toNat_natCast,bne_not,ltI_00,partAtS]
    cases leI (gd ((gd p 0).rows.getD 0 []) 1).int (gd ((gd p 0).rows.getD 0 []) 0).int <;> cases ltI (gd ((gd p 0).rows.getD 0 []) 0).int 0 <;> cases ltI 1000 (gd ((gd p 0).rows.getD 0 []) 1).int <;> cases inB (gd ((gd p 0).rows.getD 0 []) 2).int 0 3 <;> rfl
   | succ k =>
    show s_PartsOkL0 _ p [_,_,_,_,.i ((k+1:Nat):Int)]=_
    rw [s_PartsOkR0]
    simp only [int_i,c_lt hk,nd_ix hk,w64_succ hk hl,Int.toNat_natCast,bne_not,ltI_0s,w64_pred (show k+1≤9223372036854775807 from by omega),nd_ix (Nat.lt_of_succ_lt hk),partAtS]
    cases leI (gd ((gd p 0).rows.getD (k+1) []) 1).int (gd ((gd p 0).rows.getD (k+1) []) 0).int <;> cases ltI (gd ((gd p 0).rows.getD (k+1) []) 0).int 0 <;> cases ltI 1000 (gd ((gd p 0).rows.getD (k+1) []) 1).int <;> cases inB (gd ((gd p 0).rows.getD (k+1) []) 2).int 0 3 <;> cases (gd ((gd p 0).rows.getD k []) 1).int==(gd ((gd p 0).rows.getD (k+1) []) 0).int <;> rfl
  ·show s_PartsOkL0 _ p [_,_,.i ((gd p 0).rows.length:Int),_,.i ((gd p 0).rows.length:Int)]=_
   rw [s_PartsOkR0]
   simp only [int_i,c_nlt]
abbrev i_LocksOkT:FuncId→List T→Option (T × Bool):=find [i_isTxE,i_LkeysE,i_RangeOkE,i_isModeE,cofLOE]
theorem i_LocksOkT_ok:CallOk Tryz.prog i_LocksOkT:=find_ok (fC ⟨i_isTx_ok,fC ⟨i_Lkeys_ok,fC ⟨i_RangeOk_ok,fC ⟨i_isMode_ok,fC ⟨cofLO_ok,fN⟩⟩⟩⟩⟩)
abbrev i_LocksOkK:List Nat:= [0,2,3,4,5,6,7,8,34]
noncomputable def i_LocksOkL0 (N:Nat) (p:List D):List D→Out:=loopOf Tryz.prog i_LocksOkT N i_LocksOkK Tryz.f126 rb [⟨sd (.sl 133),p⟩] 0
theorem i_LocksOkR0 (N:Nat) (p:List D) (x0 x1 x2 x3 x4:D):(i_LocksOkL0 N p) [x0,x1,x2,x3,x4] =
 bif ltI x4.int x3.int then nd (inRange x4.int x2.rows.length) (bif !(inB (gd (x2.rows.getD x4.int.toNat []) 0).int 1 60) then ob false
 else bif !(rangeOk [(gd (x2.rows.getD x4.int.toNat []) 1),(gd (x2.rows.getD x4.int.toNat []) 2)]) then ob false
 else bif !(i_isModeF [(gd (x2.rows.getD x4.int.toNat []) 3)]) then ob false
 else nd (leI 0 0&&leI 0 x4.int&&leI x4.int (x0.rows.length:Int)) (bif anyS (fun r=>ixfLOC (.l [[.l [sub (x2.rows.getD x4.int.toNat []) 0 4]]]) (sub r 0 4)) (.l (x0.rows.take x4.int.toNat)) then ob false
 else nx [x0,x1,x2,x3,.i (w64 (x4.int+1))]))
 else ex 0 [x0,x1,x2,x3,x4]:=by kernel_rfl
theorem i_LocksOk_ev (N:Nat) (p:List D):evFn Tryz.prog i_LocksOkT N i_LocksOkK Tryz.f126 rb [⟨sd (.sl 133),p⟩]=some (bo,
 (let o0:=iter (i_LocksOkL0 N p) N [gd p 0,.i 0,gd p 0,.i ((gd p 0).rows.length:Int),.i 0]
  nd o0.isSome (bif o0.code==1 then some (1,o0.pay)
  else nd (o0.code==2) (ob (leI ((gd o0.pay 0).rows.length:Int) 40))))):=by kernel_rfl
def lockAt (z:D) (k:Nat):Bool:=inB (gd (z.rows.getD k []) 0).int 1 60&&(rangeOk [gd (z.rows.getD k []) 1,gd (z.rows.getD k []) 2]&&(i_isModeF [gd (z.rows.getD k []) 3] && !(List.range k).any fun j=>i_clashF (z.rows.getD k []) (z.rows.getD j [])))
def locksOk (z:D):Bool:=(List.range z.rows.length).all (lockAt z)&&leI (z.rows.length:Int) 40
def i_LocksOkE:Ent:=(126,e1 (sd (.sl 133)) fun p=>(⟨rb,[.b (locksOk (gd p 0))]⟩,true))
theorem i_LocksOk_ok:EntOk Tryz.prog i_LocksOkE:=e1_ok fun p h=>evFn_sound (N:=(gd p 0).rows.length+1) (ks:=i_LocksOkK) (key:=bo) i_LocksOkT_ok (enters Tryz.func126) Tryz.func126 fun hw=>by
 rw [i_LocksOk_ev]
 have hl:=wt_sl (hw ⟨sd (.sl 133),p⟩ (by simp))
 have e:=for_loop (L:=i_LocksOkL0 ((gd p 0).rows.length+1) p) (fun k => [gd p 0,.i 0,gd p 0,.i ((gd p 0).rows.length:Int),.i (k:Int)]) (gd p 0).rows.length (lockAt (gd p 0)) [.b false] 0 (fun k hk=>?_) ?_ (N:=(gd p 0).rows.length+1) (by omega)
 ·simp only [Int.natCast_zero] at e
  rw [e]
  unfold locksOk
  cases (List.range (gd p 0).rows.length).all (lockAt (gd p 0)) <;> rfl
 ·show i_LocksOkL0 _ p [_,_,_,_,.i (k:Int)]=_
  rw [i_LocksOkR0]
  simp only [int_i,c_lt hk,nd_ix hk,w64_succ hk hl,Int.toNat_natCast,nd_take (Nat.le_of_lt hk),anyS_take (Nat.le_of_lt hk),lockAt]
  rw [show ((List.range k).any fun j=>ixfLOC (.l [[.l [sub ((gd p 0).rows.getD k []) 0 4]]]) (sub ((gd p 0).rows.getD j []) 0 4))=(List.range k).any fun j=>i_clashF ((gd p 0).rows.getD k []) ((gd p 0).rows.getD j []) from rfl]
  cases inB (gd ((gd p 0).rows.getD k []) 0).int 1 60 <;> cases rangeOk [gd ((gd p 0).rows.getD k []) 1,gd ((gd p 0).rows.getD k []) 2] <;> cases i_isModeF [gd ((gd p 0).rows.getD k []) 3] <;> cases (List.range k).any fun j=>i_clashF ((gd p 0).rows.getD k []) ((gd p 0).rows.getD j []) <;> rfl
 ·show i_LocksOkL0 _ p [_,_,_,.i ((gd p 0).rows.length:Int),.i ((gd p 0).rows.length:Int)]=_
  rw [i_LocksOkR0]
  simp only [int_i,c_nlt]
abbrev s_LocksOkT:FuncId→List T→Option (T × Bool):=find [s_l12TxE,s_l12RangeE,s_RangeOkE,s_l12ModeE,s_l12ClashE]
theorem s_LocksOkT_ok:CallOk Tryz.prog s_LocksOkT:=find_ok (fC ⟨s_l12Tx_ok,fC ⟨s_l12Range_ok,fC ⟨s_RangeOk_ok,fC ⟨s_l12Mode_ok,fC ⟨s_l12Clash_ok,fN⟩⟩⟩⟩⟩)
abbrev s_LocksOkK:List Nat:= [0,2,3,4,7,11,38,41,52]
noncomputable def s_LocksOkL0 (N:Nat) (p:List D):List D→Out:=loopOf Tryz.prog s_LocksOkT N s_LocksOkK Tryz.f104 rb [⟨sd (.sl 133),p⟩] 0
noncomputable def s_LocksOkL2 (N:Nat) (p:List D):List D→Out:=loopOf Tryz.prog s_LocksOkT N s_LocksOkK Tryz.f104 rb [⟨sd (.sl 133),p⟩] 2
theorem s_LocksOkR0 (N:Nat) (p:List D) (x0 x1 x2 x3:D):(s_LocksOkL0 N p) [x0,x1,x2,x3] =
 bif ltI x3.int (x0.rows.length:Int) then nd (inRange x3.int x0.rows.length) (bif !(inB (gd (x0.rows.getD x3.int.toNat []) 0).int 1 60) then ob false
 else nd (inRange x3.int x0.rows.length) (bif !(rangeOk [(gd (x0.rows.getD x3.int.toNat []) 1),(gd (x0.rows.getD x3.int.toNat []) 2)]) then ob false
 else nd (inRange x3.int x0.rows.length) (bif !(s_l12ModeF [(gd (x0.rows.getD x3.int.toNat []) 3)]) then ob false
 else (let o2:=iter (s_LocksOkL2 N p) N [x0,x1,x2,x3,.b (ltI x3.int (x0.rows.length:Int)),.b (!(s_l12ModeF [(gd (x0.rows.getD x3.int.toNat []) 3)])),.i 0]
  nd o2.isSome (bif o2.code==1 then some (1,o2.pay)
  else nd (o2.code==4) (nx [gd o2.pay 0,gd o2.pay 1,gd o2.pay 2,.i (w64 ((gd o2.pay 3).int+1))]))))))
 else ex 0 [x0,x1,x2,x3]:=by kernel_rfl
theorem s_LocksOkR2 (N:Nat) (p:List D) (x0 x1 x2 x3 x4 x5 x6:D):(s_LocksOkL2 N p) [x0,x1,x2,x3,x4,x5,x6] =
 bif ltI x6.int x3.int then nd (inRange x3.int x0.rows.length) (nd (inRange x6.int x0.rows.length) (bif clashS (sub (x0.rows.getD x3.int.toNat []) 0 4) (sub (x0.rows.getD x6.int.toNat []) 0 4) then ob false
 else nx [x0,x1,x2,x3,x4,x5,.i (w64 (x6.int+1))]))
 else ex 2 [x0,x1,x2,x3,x4,x5,x6]:=by kernel_rfl
theorem s_LocksOk_ev (N:Nat) (p:List D):evFn Tryz.prog s_LocksOkT N s_LocksOkK Tryz.f104 rb [⟨sd (.sl 133),p⟩]=some (bo,
 bif ltI 40 ((gd p 0).rows.length:Int) then ob false
 else (let o0:=iter (s_LocksOkL0 N p) N [gd p 0,.i 0,.b (ltI 40 ((gd p 0).rows.length:Int)),.i 0]
  nd o0.isSome (bif o0.code==1 then some (1,o0.pay)
  else nd (o0.code==2) (ob true)))):=by kernel_rfl
def lockAtS (z:D) (k:Nat):Bool:=inB (gd (z.rows.getD k []) 0).int 1 60&&(rangeOk [gd (z.rows.getD k []) 1,gd (z.rows.getD k []) 2]&&(i_isModeF [gd (z.rows.getD k []) 3]&&(List.range k).all fun j => !clashS (z.rows.getD k []) (z.rows.getD j [])))
theorem locks_same (z:D) (n:Nat):(List.range n).all (lockAtS z)=(List.range n).all (lockAt z):=by
 rw [Bool.eq_iff_iff]
 simp only [List.all_eq_true,List.mem_range]
 have hr:∀ {k},(lockAtS z k=true∨lockAt z k=true)→rangeOk [gd (z.rows.getD k []) 1,gd (z.rows.getD k []) 2]=true:=fun h=>by
  rcases h with h | h
  ·simp only [lockAtS,Bool.and_eq_true] at h; exact h.2.1
  ·simp only [lockAt,Bool.and_eq_true] at h; exact h.2.1
 constructor
 ·intro h k hk
  have a:=h k hk
  have ra:=hr (.inl a)
  simp only [lockAtS,Bool.and_eq_true,List.all_eq_true,List.mem_range,Bool.not_eq_true'] at a
  simp only [lockAt,Bool.and_eq_true,Bool.not_eq_true',List.any_eq_false,List.mem_range,Bool.not_eq_true]
  refine ⟨a.1,a.2.1,a.2.2.1,fun j hj=>?_⟩
  rw [← clashS_of ra (hr (.inl (h j (by omega))))]
  exact a.2.2.2 j hj
 ·intro h k hk
  have a:=h k hk
  have ra:=hr (.inr a)
  simp only [lockAt,Bool.and_eq_true,Bool.not_eq_true',List.any_eq_false,List.mem_range,Bool.not_eq_true] at a
  simp only [lockAtS,Bool.and_eq_true,List.all_eq_true,List.mem_range,Bool.not_eq_true']
  refine ⟨a.1,a.2.1,a.2.2.1,fun j hj=>?_⟩
  rw [clashS_of ra (hr (.inr (h j (by omega))))]
  exact a.2.2.2 j hj
def s_LocksOkE:Ent:=(104,e1 (sd (.sl 133)) fun p=>(⟨rb,[.b (locksOk (gd p 0))]⟩,true))
theorem s_LocksOk_ok:EntOk Tryz.prog s_LocksOkE:=e1_ok fun p h=>evFn_sound (N:=(gd p 0).rows.length+1) (ks:=s_LocksOkK) (key:=bo) s_LocksOkT_ok (enters Tryz.func104) Tryz.func104 fun hw=>by
 rw [s_LocksOk_ev]
 have hl:=wt_sl (hw ⟨sd (.sl 133),p⟩ (by simp))
 unfold locksOk
 rw [← locks_same]
 by_cases hb:(gd p 0).rows.length≤40
 ·rw [ltI_f (show ((gd p 0).rows.length:Int)≤40 from by omega),leI_t (show ((gd p 0).rows.length:Int)≤40 from by omega),cond_false]
  have e:=for_loop (L:=s_LocksOkL0 ((gd p 0).rows.length+1) p) (fun k => [gd p 0,.i 0,.b false,.i (k:Int)]) (gd p 0).rows.length (lockAtS (gd p 0)) [.b false] 0 (fun k hk=>?_) ?_ (N:=(gd p 0).rows.length+1) (by omega)
  ·simp only [Int.natCast_zero] at e
   rw [e]
   cases (List.range (gd p 0).rows.length).all (lockAtS (gd p 0)) <;> rfl
  ·show s_LocksOkL0 _ p [_,_,_,.i (k:Int)]=_
   rw [s_LocksOkR0]
   simp only [int_i,ltI_nat hk,cond_true,nd_ix hk,Int.toNat_natCast,lockAtS,show s_l12ModeF [gd ((gd p 0).rows.getD k []) 3]=i_isModeF [gd ((gd p 0).rows.getD k []) 3] from rfl]
   cases inB (gd ((gd p 0).rows.getD k []) 0).int 1 60
   ·rfl
   cases rangeOk [gd ((gd p 0).rows.getD k []) 1,gd ((gd p 0).rows.getD k []) 2]
   ·rfl
   cases i_isModeF [gd ((gd p 0).rows.getD k []) 3]
   ·rfl
   have e2:=for_loop (L:=s_LocksOkL2 ((gd p 0).rows.length+1) p) (fun j => [gd p 0,.i 0,.b false,.i (k:Int),.b true,.b false,.i (j:Int)]) k (fun j => !clashS ((gd p 0).rows.getD k []) ((gd p 0).rows.getD j [])) [.b false] 2 (fun j hj=>?_) ?_ (N:=(gd p 0).rows.length+1) (by omega)
   ·simp only [Int.natCast_zero] at e2
    simp only [Bool.not_true,cond_false,e2,Bool.true_and]
    cases (List.range k).all fun j => !clashS ((gd p 0).rows.getD k []) ((gd p 0).rows.getD j [])
    ·rfl
    ·simp only [nd,cond_true,cond_false,Option.isSome_some,Out.code,Out.pay,Option.getD_some,gd_cons_zero,gd_cons_succ,Nat.reduceBEq,Nat.reduceAdd,int_i,bool_b,str_s,rows_l,Bool.not_true,Bool.not_false,beq_self_eq_true,w64_succ hk hl]
   ·show s_LocksOkL2 _ p [_,_,_,.i (k:Int),_,_,.i (j:Int)]=_
    rw [s_LocksOkR2]
    simp only [int_i,c_lt hj,nd_ix hk,nd_ix (Nat.lt_trans hj hk),w64_succ hj (show k≤9223372036854775807 from by omega),Int.toNat_natCast]
    rw [show clashS (sub ((gd p 0).rows.getD k []) 0 4) (sub ((gd p 0).rows.getD j []) 0 4)=clashS ((gd p 0).rows.getD k []) ((gd p 0).rows.getD j []) from rfl]
    cases clashS ((gd p 0).rows.getD k []) ((gd p 0).rows.getD j []) <;> rfl
   ·show s_LocksOkL2 _ p [_,_,_,.i (k:Int),_,_,.i (k:Int)]=_
    rw [s_LocksOkR2]
    simp only [int_i,c_nlt]
  ·show s_LocksOkL0 _ p [_,_,_,.i ((gd p 0).rows.length:Int)]=_
   rw [s_LocksOkR0]
   simp only [int_i,c_nlt]
 ·rw [ltI_t (show (40:Int)<((gd p 0).rows.length:Int) from by omega),leI_f (show (40:Int)<((gd p 0).rows.length:Int) from by omega),Bool.and_false]
  rfl
abbrev i_haveAllT:FuncId→List T→Option (T × Bool):=find []
theorem i_haveAllT_ok:CallOk Tryz.prog i_haveAllT:=find_ok (fN)
abbrev i_haveAllK:List Nat:= [0,1,3,4,5,7,10,11,12,13,25]
noncomputable def i_haveAllL0 (N:Nat) (p q:List D):List D→Out:=loopOf Tryz.prog i_haveAllT N i_haveAllK Tryz.f131 rb [⟨sd (.sl 82),p⟩,⟨ag rIRange,q⟩] 0
theorem i_haveAllR0 (N:Nat) (p q:List D) (x0 x1 x2 x3 x4 x5 x6 x7 x8 x9 x10:D):(i_haveAllL0 N p q) [x0,x1,x2,x3,x4,x5,x6,x7,x8,x9,x10] =
 bif ltI x8.int x7.int then nd (inRange x8.int x6.rows.length) (bif leI (gd (x6.rows.getD x8.int.toNat []) 0).int x5.int then bif ltI x5.int (gd (x6.rows.getD x8.int.toNat []) 1).int then nx [x0,x1,x2,x3,x4,gd (x6.rows.getD x8.int.toNat []) 1,x6,x7,.i (w64 (x8.int+1)),x9,x10]
 else nx [x0,x1,x2,x3,x4,x5,x6,x7,.i (w64 (x8.int+1)),x9,x10]
 else nx [x0,x1,x2,x3,x4,x5,x6,x7,.i (w64 (x8.int+1)),x9,x10])
 else ex 0 [x0,x1,x2,x3,x4,x5,x6,x7,x8,x9,x10]:=by kernel_rfl
theorem i_haveAll_ev (N:Nat) (p q:List D):evFn Tryz.prog i_haveAllT N i_haveAllK Tryz.f131 rb [⟨sd (.sl 82),p⟩,⟨ag rIRange,q⟩]=some (bo,
 (let o0:=iter (i_haveAllL0 N p q) N [gd p 0,gd q 0,gd q 1,.i 0,.i 0,gd q 0,gd p 0,.i ((gd p 0).rows.length:Int),.i 0,gd q 0,gd q 1]
  nd o0.isSome (nd (o0.code==2) (ob (leI (gd o0.pay 10).int (gd o0.pay 5).int))))):=by kernel_rfl
def haveD (z:D) (a:D):Nat→D
 | 0=>a
 | k+1=>bif leI (gd (z.rows.getD k []) 0).int (haveD z a k).int&&ltI (haveD z a k).int (gd (z.rows.getD k []) 1).int then gd (z.rows.getD k []) 1 else haveD z a k
def haveAll (z:D) (q:List D):Bool:=leI (gd q 1).int (haveD z (gd q 0) z.rows.length).int
theorem run_loop {L:List D→Out} (st:Nat→List D) (n:Nat) (j:Nat) (h1:∀ k,k<n→L (st k)=some (0,st (k+1))) (h2:L (st n)=some (j+2,st n)) {N:Nat} (hN:n<N) :
  iter L N (st 0)=some (j+2,st n):=by
 have e:=for_loop (L:=L) st n (fun _=>true) [] j (fun k hk=>h1 k hk) h2 hN
 rw [e,show (List.range n).all (fun _=>true)=true from by simp]; rfl
def i_haveAllE:Ent:=(131,e2 (sd (.sl 82)) (ag rIRange) fun p q=>(⟨rb,[.b (haveAll (gd p 0) q)]⟩,true))
theorem i_haveAll_ok:EntOk Tryz.prog i_haveAllE:=e2_ok fun p q h=>evFn_sound (N:=(gd p 0).rows.length+1) (ks:=i_haveAllK) (key:=bo) i_haveAllT_ok (enters Tryz.func131) Tryz.func131 fun hw=>by
 rw [i_haveAll_ev]
 have hl:=wt_sl (hw ⟨sd (.sl 82),p⟩ (by simp))
 have e:=run_loop (L:=i_haveAllL0 ((gd p 0).rows.length+1) p q) (fun k => [gd p 0,gd q 0,gd q 1,.i 0,.i 0,haveD (gd p 0) (gd q 0) k,gd p 0,.i ((gd p 0).rows.length:Int),.i (k:Int),gd q 0,gd q 1]) (gd p 0).rows.length 0 (fun k hk=>?_) ?_ (N:=(gd p 0).rows.length+1) (by omega)
 ·simp only [Int.natCast_zero] at e
  rw [show haveD (gd p 0) (gd q 0) 0=gd q 0 from rfl] at e
  rw [e]
  rfl
 ·show i_haveAllL0 _ p q [_,_,_,_,_,_,_,_,.i (k:Int),_,_]=_
  rw [i_haveAllR0]
  simp only [int_i,c_lt hk,nd_ix hk,w64_succ hk hl,Int.toNat_natCast,haveD]
  cases leI (gd ((gd p 0).rows.getD k []) 0).int (haveD (gd p 0) (gd q 0) k).int <;> cases ltI (haveD (gd p 0) (gd q 0) k).int (gd ((gd p 0).rows.getD k []) 1).int <;> rfl
 ·show i_haveAllL0 _ p q [_,_,_,_,_,_,_,.i ((gd p 0).rows.length:Int),.i ((gd p 0).rows.length:Int),_,_]=_
  rw [i_haveAllR0]
  simp only [int_i,c_nlt]
abbrev s_RangesHaveT:FuncId→List T→Option (T × Bool):=find [s_RangesOkE,s_RangeOkE]
theorem s_RangesHaveT_ok:CallOk Tryz.prog s_RangesHaveT:=find_ok (fC ⟨s_RangesOk_ok,fC ⟨s_RangeOk_ok,fN⟩⟩)
abbrev s_RangesHaveK:List Nat:= [0,1,3,4,5,6,14,20,38]
noncomputable def s_RangesHaveL0 (N:Nat) (p q:List D):List D→Out:=loopOf Tryz.prog s_RangesHaveT N s_RangesHaveK Tryz.f106 rb [⟨sd (.sl 82),p⟩,⟨ag rIRange,q⟩] 0
theorem s_RangesHaveR0 (N:Nat) (p q:List D) (x0 x1 x2 x3 x4 x5 x6 x7 x8 x9:D):(s_RangesHaveL0 N p q) [x0,x1,x2,x3,x4,x5,x6,x7,x8,x9] =
 bif ltI x7.int (x0.rows.length:Int) then nd (inRange x7.int x0.rows.length) (bif leI (gd (x0.rows.getD x7.int.toNat []) 0).int x6.int then nd (inRange x7.int x0.rows.length) (bif ltI x6.int (gd (x0.rows.getD x7.int.toNat []) 1).int then nd (inRange x7.int x0.rows.length) (nx [x0,x1,x2,x3,x4,x5,gd (x0.rows.getD x7.int.toNat []) 1,.i (w64 (x7.int+1)),x8,x9])
 else nx [x0,x1,x2,x3,x4,x5,x6,.i (w64 (x7.int+1)),x8,x9])
 else nx [x0,x1,x2,x3,x4,x5,x6,.i (w64 (x7.int+1)),x8,x9])
 else ex 0 [x0,x1,x2,x3,x4,x5,x6,x7,x8,x9]:=by kernel_rfl
theorem s_RangesHave_ev (N:Nat) (p q:List D):evFn Tryz.prog s_RangesHaveT N s_RangesHaveK Tryz.f106 rb [⟨sd (.sl 82),p⟩,⟨ag rIRange,q⟩]=some (bo,
 bif !(rangesOk (gd p 0)) then ob false
 else bif !(rangeOk (sub q 0 2)) then ob false
 else (let o0:=iter (s_RangesHaveL0 N p q) N [gd p 0,gd q 0,gd q 1,.i 0,.i 0,.b (!(rangeOk (sub q 0 2))),gd q 0,.i 0,gd q 0,gd q 1]
  nd o0.isSome (nd (o0.code==2) (ob (leI (gd o0.pay 9).int (gd o0.pay 6).int))))):=by kernel_rfl
def rangesHave (z:D) (q:List D):Bool:=rangesOk z&&(rangeOk q&&haveAll z q)
def s_RangesHaveE:Ent:=(106,e2 (sd (.sl 82)) (ag rIRange) fun p q=>(⟨rb,[.b (rangesHave (gd p 0) q)]⟩,true))
theorem s_RangesHave_ok:EntOk Tryz.prog s_RangesHaveE:=e2_ok fun p q h=>evFn_sound (N:=(gd p 0).rows.length+1) (ks:=s_RangesHaveK) (key:=bo) s_RangesHaveT_ok (enters Tryz.func106) Tryz.func106 fun hw=>by
 rw [s_RangesHave_ev]
 have hl:=wt_sl (hw ⟨sd (.sl 82),p⟩ (by simp))
 unfold rangesHave
 rw [show rangeOk (sub q 0 2)=rangeOk q from rfl]
 cases rangesOk (gd p 0)
 ·rfl
 cases rangeOk q
 ·rfl
 have e:=run_loop (L:=s_RangesHaveL0 ((gd p 0).rows.length+1) p q) (fun k => [gd p 0,gd q 0,gd q 1,.i 0,.i 0,.b false,haveD (gd p 0) (gd q 0) k,.i (k:Int),gd q 0,gd q 1]) (gd p 0).rows.length 0 (fun k hk=>?_) ?_ (N:=(gd p 0).rows.length+1) (by omega)
 ·simp only [Int.natCast_zero] at e
  rw [show haveD (gd p 0) (gd q 0) 0=gd q 0 from rfl] at e
  simp only [Bool.not_true,cond_false,e]
  rfl
 ·show s_RangesHaveL0 _ p q [_,_,_,_,_,_,_,.i (k:Int),_,_]=_
  rw [s_RangesHaveR0]
  simp only [int_i,c_lt hk,nd_ix hk,w64_succ hk hl,Int.toNat_natCast,haveD]
  cases leI (gd ((gd p 0).rows.getD k []) 0).int (haveD (gd p 0) (gd q 0) k).int <;> cases ltI (haveD (gd p 0) (gd q 0) k).int (gd ((gd p 0).rows.getD k []) 1).int <;> rfl
 ·show s_RangesHaveL0 _ p q [_,_,_,_,_,_,_,.i ((gd p 0).rows.length:Int),_,_]=_
  rw [s_RangesHaveR0]
  simp only [int_i,c_nlt]
end Go.Proofs.YtecefnhhlaolmaaGreat
namespace Go.Proofs.YtecefnhhlaolmaaGreat
set_option maxRecDepth 4096
abbrev i_cellsInT:FuncId→List T→Option (T × Bool):=find [i_StoreOkE,cofCIE]
theorem i_cellsInT_ok:CallOk Tryz.prog i_cellsInT:=find_ok (fC ⟨i_StoreOk_ok,fC ⟨cofCI_ok,fN⟩⟩)
abbrev i_cellsInK:List Nat:= [0,1,3,4]
theorem i_cellsIn_ev (N:Nat) (p q:List D):evFn Tryz.prog i_cellsInT N i_cellsInK Tryz.f182 rb [⟨sd (.sl 131),p⟩,⟨ag rIRange,q⟩]=some (bo,
 bif storeOk (gd p 0) then ob (!(anyS (fun r=>ixfCIC (.l [[.l [sub q 0 2]]]) (sub r 0 2)) (gd p 0)))
 else ob false):=by kernel_rfl
def cellsIn (z:D) (q:List D):Bool:=storeOk z&&(List.range z.rows.length).all fun k=>inB (gd (z.rows.getD k []) 0).int (gd q 0).int (w64 ((gd q 1).int - 1))
def i_cellsInE:Ent:=(182,e2 (sd (.sl 131)) (ag rIRange) fun p q=>(⟨rb,[.b (cellsIn (gd p 0) q)]⟩,true))
theorem i_cellsIn_ok:EntOk Tryz.prog i_cellsInE:=e2_ok fun p q h=>evFn_sound (N:=0) (ks:=i_cellsInK) (key:=bo) i_cellsInT_ok (enters Tryz.func182) Tryz.func182 fun hw=>by
 rw [i_cellsIn_ev]
 unfold cellsIn
 cases storeOk (gd p 0)
 ·rfl
 ·refine congrArg (fun x=>some (bo,ob x)) ?_
  show (!anyS (fun r => !inB (gd r 0).int (gd q 0).int (w64 ((gd q 1).int - 1))) (gd p 0))=_
  unfold anyS
  rw [← not_any,Bool.true_and]
  simp only [Bool.not_not]
abbrev i_moveOkT:FuncId→List T→Option (T × Bool):=find [i_fromE,i_MkeysE,i_RangeOkE,i_isGroupE,i_cellsInE]
theorem i_moveOkT_ok:CallOk Tryz.prog i_moveOkT:=find_ok (fC ⟨i_from_ok,fC ⟨i_Mkeys_ok,fC ⟨i_RangeOk_ok,fC ⟨i_isGroup_ok,fC ⟨i_cellsIn_ok,fN⟩⟩⟩⟩⟩)
abbrev i_moveOkK:List Nat:= [0,1,2,12,15]
theorem i_moveOk_ev (N:Nat) (p:List D):evFn Tryz.prog i_moveOkT N i_moveOkK Tryz.f122 rb [⟨ag rIMove,p⟩]=some (bo,
 bif !(inB (gd p 0).int 0 300000) then ob false
 else bif !(inB (gd p 1).int 0 4) then ob false
 else bif (gd p 1).int==0 then bif (gd p 2).int==0 then bif (gd p 3).int==0 then bif (gd p 4).int==0 then bif (gd p 5).int==0 then ob (((gd p 6).rows.length:Int)==0)
 else ob false
 else ob false
 else ob false
 else ob false
 else bif leI 1 (gd p 0).int then bif rangeOk [(gd p 2),(gd p 3)] then bif inB (gd p 4).int (0) (3) then bif inB (gd p 5).int (0) (3) then bif (gd p 4).int != (gd p 5).int then bif cellsIn (gd p 6) [(gd p 2),(gd p 3)] then bif (gd p 1).int==2 then ob true
 else ob (((gd p 6).rows.length:Int)==0)
 else ob false
 else ob false
 else ob false
 else ob false
 else ob false
 else ob false):=by kernel_rfl
def still (a b c d:Int) (n:Nat):Bool:=(a==0)&&((b==0)&&((c==0)&&((d==0)&&((n:Int)==0))))
def moveOk (p:List D):Bool:=inB (gd p 0).int 0 300000&&(inB (gd p 1).int 0 4&&(bif (gd p 1).int==0 then still (gd p 2).int (gd p 3).int (gd p 4).int (gd p 5).int (gd p 6).rows.length else
 leI 1 (gd p 0).int&&(rangeOk [gd p 2,gd p 3]&&(inB (gd p 4).int 0 3&&(inB (gd p 5).int 0 3&&(!((gd p 4).int==(gd p 5).int)&&(cellsIn (gd p 6) [gd p 2,gd p 3]&&(((gd p 1).int==2)||(((gd p 6).rows.length:Int)==0)))))))))
def i_moveOkE:Ent:=(122,e1 (ag rIMove) fun p=>(⟨rb,[.b (moveOk p)]⟩,true))
theorem i_moveOk_ok:EntOk Tryz.prog i_moveOkE:=e1_ok fun p h=>evFn_sound (N:=0) (ks:=i_moveOkK) (key:=bo) i_moveOkT_ok (enters Tryz.func122) Tryz.func122 fun hw=>by
 rw [i_moveOk_ev]
 unfold moveOk still
 rw [bne_not]
 cases inB (gd p 0).int 0 300000 <;> try rfl
 cases inB (gd p 1).int 0 4 <;> try rfl
 cases (gd p 1).int==0
 ·cases leI 1 (gd p 0).int <;> try rfl
  cases rangeOk [gd p 2,gd p 3] <;> try rfl
  cases inB (gd p 4).int 0 3 <;> try rfl
  cases inB (gd p 5).int 0 3 <;> try rfl
  cases (gd p 4).int==(gd p 5).int <;> try rfl
  cases cellsIn (gd p 6) [gd p 2,gd p 3] <;> try rfl
  cases (gd p 1).int==2 <;> rfl
 ·cases (gd p 2).int==0 <;> try rfl
  cases (gd p 3).int==0 <;> try rfl
  cases (gd p 4).int==0 <;> try rfl
  cases (gd p 5).int==0 <;> rfl
abbrev i_AtlasOkT:FuncId→List T→Option (T × Bool):=find [i_fromE,i_PartsOkE,i_moveOkE]
theorem i_AtlasOkT_ok:CallOk Tryz.prog i_AtlasOkT:=find_ok (fC ⟨i_from_ok,fC ⟨i_PartsOk_ok,fC ⟨i_moveOk_ok,fN⟩⟩⟩)
abbrev i_AtlasOkK:List Nat:= [0,1,2]
theorem i_AtlasOk_ev (N:Nat) (p:List D):evFn Tryz.prog i_AtlasOkT N i_AtlasOkK Tryz.f52 rb [⟨ag rIAtlas,p⟩]=some (bo,
 bif inB (gd p 0).int 0 1000000 then bif partsOk (gd p 1) then ob (moveOk (sub p 2 7))
 else ob false
 else ob false):=by kernel_rfl
def atlasOk (p:List D):Bool:=inB (gd p 0).int 0 1000000&&(partsOk (gd p 1)&&moveOk (sub p 2 7))
def i_AtlasOkE:Ent:=(52,e1 (ag rIAtlas) fun p=>(⟨rb,[.b (atlasOk p)]⟩,true))
theorem i_AtlasOk_ok:EntOk Tryz.prog i_AtlasOkE:=e1_ok fun p h=>evFn_sound (N:=0) (ks:=i_AtlasOkK) (key:=bo) i_AtlasOkT_ok (enters Tryz.func52) Tryz.func52 fun hw=>by
 rw [i_AtlasOk_ev]
 unfold atlasOk
 cases inB (gd p 0).int 0 1000000 <;> try rfl
 cases partsOk (gd p 1) <;> rfl
abbrev s_AtlasOkT:FuncId→List T→Option (T × Bool):=find [s_l1InE,s_PartsOkE,s_StoreOkE,s_RangeOkE,s_l15GroupE,s_l15InE]
theorem s_AtlasOkT_ok:CallOk Tryz.prog s_AtlasOkT:=find_ok (fC ⟨s_l1In_ok,fC ⟨s_PartsOk_ok,fC ⟨s_StoreOk_ok,fC ⟨s_RangeOk_ok,fC ⟨s_l15Group_ok,fC ⟨s_l15In_ok,fN⟩⟩⟩⟩⟩⟩)
abbrev s_AtlasOkK:List Nat:= [0,1,2,3,33,36,91]
theorem s_AtlasOk_ev (N:Nat) (p:List D):evFn Tryz.prog s_AtlasOkT N s_AtlasOkK Tryz.f43 rb [⟨ag rIAtlas,p⟩]=some (bo,
 bif !(inB (gd p 0).int 0 1000000) then ob false
 else bif !(partsOk (gd p 1)) then ob false
 else bif !(inB (gd p 2).int 0 300000) then ob false
 else bif !(inB (gd p 3).int 0 4) then ob false
 else bif !(storeOk (gd p 8)) then ob false
 else bif (gd p 3).int==0 then bif (gd p 4).int==0 then bif (gd p 5).int==0 then bif (gd p 6).int==0 then bif (gd p 7).int==0 then ob (((gd p 8).rows.length:Int)==0)
 else ob false
 else ob false
 else ob false
 else ob false
 else bif ltI (gd p 2).int 1 then ob false
 else bif !(rangeOk (sub p 4 2)) then ob false
 else bif !(inB (gd p 6).int 0 3) then ob false
 else bif !(inB (gd p 7).int 0 3) then ob false
 else bif (gd p 6).int==(gd p 7).int then ob false
 else bif cellsInS (gd p 8) (sub p 2 7) then bif (gd p 3).int==2 then ob true
 else ob (((gd p 8).rows.length:Int)==0)
 else ob false):=by kernel_rfl
theorem store_nil {z:D} (h:((z.rows.length:Int)==0)=true):storeOk z=true:=by
 have h0:z.rows.length=0:=by have:=eq_of_beq h; omega
 unfold storeOk
 rw [h0]; rfl
def s_AtlasOkE:Ent:=(43,e1 (ag rIAtlas) fun p=>(⟨rb,[.b (atlasOk p)]⟩,true))
theorem s_AtlasOk_ok:EntOk Tryz.prog s_AtlasOkE:=e1_ok fun p h=>evFn_sound (N:=0) (ks:=s_AtlasOkK) (key:=bo) s_AtlasOkT_ok (enters Tryz.func43) Tryz.func43 fun hw=>by
 rw [s_AtlasOk_ev]
 rw [show rangeOk (sub p 4 2)=rangeOk [gd p 4,gd p 5] from rfl]
 have hm:moveOk (sub p 2 7)=(inB (gd p 2).int 0 300000&&(inB (gd p 3).int 0 4&&(bif (gd p 3).int==0 then still (gd p 4).int (gd p 5).int (gd p 6).int (gd p 7).int (gd p 8).rows.length else leI 1 (gd p 2).int&&(rangeOk [gd p 4,gd p 5]&&(inB (gd p 6).int 0 3&&(inB (gd p 7).int 0 3&&(!((gd p 6).int==(gd p 7).int)&&((storeOk (gd p 8)&&cellsInS (gd p 8) (sub p 2 7))&&(((gd p 3).int==2)||(((gd p 8).rows.length:Int)==0)))))))))):=rfl
 unfold atlasOk
 rw [hm,show leI 1 (gd p 2).int = !ltI (gd p 2).int 1 from by unfold leI ltI; rw [← decide_not]; exact decide_eq_decide.2 (by omega)]
 unfold still
 cases inB (gd p 0).int 0 1000000 <;> try rfl
 cases partsOk (gd p 1) <;> try rfl
 cases inB (gd p 2).int 0 300000 <;> try rfl
 cases inB (gd p 3).int 0 4 <;> try rfl
 cases hs:storeOk (gd p 8)
 ·cases (gd p 3).int==0
  ·cases ltI (gd p 2).int 1 <;> cases rangeOk [gd p 4,gd p 5] <;> cases inB (gd p 6).int 0 3 <;> cases inB (gd p 7).int 0 3 <;> cases (gd p 6).int==(gd p 7).int <;> rfl
  ·cases hl:((gd p 8).rows.length:Int)==0
   ·cases (gd p 4).int==0 <;> cases (gd p 5).int==0 <;> cases (gd p 6).int==0 <;> cases (gd p 7).int==0 <;> rfl
   ·rw [store_nil hl] at hs; cases hs
 ·cases (gd p 3).int==0
  ·cases ltI (gd p 2).int 1 <;> try rfl
   cases rangeOk [gd p 4,gd p 5] <;> try rfl
   cases inB (gd p 6).int 0 3 <;> try rfl
   cases inB (gd p 7).int 0 3 <;> try rfl
   cases (gd p 6).int==(gd p 7).int <;> try rfl
   cases cellsInS (gd p 8) (sub p 2 7) <;> try rfl
   cases (gd p 3).int==2 <;> rfl
  ·cases (gd p 4).int==0 <;> try rfl
   cases (gd p 5).int==0 <;> try rfl
   cases (gd p 6).int==0 <;> try rfl
   cases (gd p 7).int==0 <;> rfl
abbrev i_eventRightT:FuncId→List T→Option (T × Bool):=find [i_fromE,i_isTxE,i_StoreOkE,i_RangeOkE]
theorem i_eventRightT_ok:CallOk Tryz.prog i_eventRightT:=find_ok (fC ⟨i_from_ok,fC ⟨i_isTx_ok,fC ⟨i_StoreOk_ok,fC ⟨i_RangeOk_ok,fN⟩⟩⟩⟩)
abbrev i_eventRightK:List Nat:= [0,1,2,3,4,30,33]
theorem i_eventRight_ev (N:Nat) (p q:List D):evFn Tryz.prog i_eventRightT N i_eventRightK Tryz.f70 rb [⟨ag rITown,p⟩,⟨ag rIEvent,q⟩]=some (bo,
 bif !(inB (gd q 0).int 1 3) then ob false
 else bif !(inB (gd q 1).int 0 (w64 (((gd p 12).rows.length:Int) - 1))) then ob false
 else bif !(inB (gd q 2).int 1 60) then ob false
 else bif !(storeOk (gd q 5)) then ob false
 else bif (gd q 0).int==2 then bif rangeOk (sub q 3 2) then ob (!(gd q 6).bool)
 else ob false
 else bif (gd q 3).int==0 then bif (gd q 4).int==0 then bif ((gd q 5).rows.length:Int)==0 then bif (gd q 0).int==3 then ob true
 else ob (!(gd q 6).bool)
 else ob false
 else ob false
 else ob false):=by kernel_rfl
def eventOk (e:List D) (n:Int):Bool:=inB (gd e 0).int 1 3&&(inB (gd e 1).int 0 (w64 (n - 1))&&(inB (gd e 2).int 1 60&&(storeOk (gd e 5)&&(bif (gd e 0).int==2 then rangeOk [gd e 3,gd e 4] && !(gd e 6).bool else
 ((gd e 3).int==0)&&(((gd e 4).int==0)&&((((gd e 5).rows.length:Int)==0)&&(((gd e 0).int==3) || !(gd e 6).bool)))))))
def i_eventRightE:Ent:=(70,e2 (ag rITown) (ag rIEvent) fun p q=>(⟨rb,[.b (eventOk q ((gd p 12).rows.length:Int))]⟩,true))
theorem i_eventRight_ok:EntOk Tryz.prog i_eventRightE:=e2_ok fun p q h=>evFn_sound (N:=0) (ks:=i_eventRightK) (key:=bo) i_eventRightT_ok (enters Tryz.func70) Tryz.func70 fun hw=>by
 rw [i_eventRight_ev]
 rw [show rangeOk (sub q 3 2)=rangeOk [gd q 3,gd q 4] from rfl]
 unfold eventOk
 cases inB (gd q 0).int 1 3 <;> try rfl
 cases inB (gd q 1).int 0 (w64 (((gd p 12).rows.length:Int) - 1)) <;> try rfl
 cases inB (gd q 2).int 1 60 <;> try rfl
 cases storeOk (gd q 5) <;> try rfl
 cases (gd q 0).int==2
 ·cases (gd q 3).int==0 <;> try rfl
  cases (gd q 4).int==0 <;> try rfl
  cases ((gd q 5).rows.length:Int)==0 <;> try rfl
  cases (gd q 0).int==3 <;> rfl
 ·cases rangeOk [gd q 3,gd q 4] <;> rfl
abbrev s_l16EventOkT:FuncId→List T→Option (T × Bool):=find [s_l1InE,s_l12TxE,s_StoreOkE,s_l16RangeOkE]
theorem s_l16EventOkT_ok:CallOk Tryz.prog s_l16EventOkT:=find_ok (fC ⟨s_l1In_ok,fC ⟨s_l12Tx_ok,fC ⟨s_StoreOk_ok,fC ⟨s_l16RangeOk_ok,fN⟩⟩⟩⟩)
abbrev s_l16EventOkK:List Nat:= [0,1,2,4,28,31]
theorem s_l16EventOk_ev (N:Nat) (p q:List D):evFn Tryz.prog s_l16EventOkT N s_l16EventOkK Tryz.f50 rb [⟨ag rIEvent,p⟩,⟨ri,q⟩]=some (bo,
 bif !(inB (gd p 0).int 1 3) then ob false
 else bif !(inB (gd p 1).int 0 (w64 ((gd q 0).int - 1))) then ob false
 else bif !(inB (gd p 2).int 1 60) then ob false
 else bif !(storeOk (gd p 5)) then ob false
 else bif (gd p 0).int==2 then bif rangeOk [(gd p 3),(gd p 4)] then ob (!(gd p 6).bool)
 else ob false
 else bif (gd p 3).int==0 then bif (gd p 4).int==0 then bif ((gd p 5).rows.length:Int)==0 then bif (gd p 0).int==3 then ob true
 else ob (!(gd p 6).bool)
 else ob false
 else ob false
 else ob false):=by kernel_rfl
def s_l16EventOkE:Ent:=(50,e2 (ag rIEvent) ri fun p q=>(⟨rb,[.b (eventOk p (gd q 0).int)]⟩,true))
theorem s_l16EventOk_ok:EntOk Tryz.prog s_l16EventOkE:=e2_ok fun p q h=>evFn_sound (N:=0) (ks:=s_l16EventOkK) (key:=bo) s_l16EventOkT_ok (enters Tryz.func50) Tryz.func50 fun hw=>by
 rw [s_l16EventOk_ev]
 unfold eventOk
 cases inB (gd p 0).int 1 3 <;> try rfl
 cases inB (gd p 1).int 0 (w64 ((gd q 0).int - 1)) <;> try rfl
 cases inB (gd p 2).int 1 60 <;> try rfl
 cases storeOk (gd p 5) <;> try rfl
 cases (gd p 0).int==2
 ·cases (gd p 3).int==0 <;> try rfl
  cases (gd p 4).int==0 <;> try rfl
  cases ((gd p 5).rows.length:Int)==0 <;> try rfl
  cases (gd p 0).int==3 <;> rfl
 ·cases rangeOk [gd p 3,gd p 4] <;> rfl
abbrev i_ClientOkT:FuncId→List T→Option (T × Bool):=find [i_fromE,i_isWholeE,i_RangeOkE,i_isGroupE,i_isTxE,i_WritesOkE,i_PartsOkE,cofCOE]
theorem i_ClientOkT_ok:CallOk Tryz.prog i_ClientOkT:=find_ok (fC ⟨i_from_ok,fC ⟨i_isWhole_ok,fC ⟨i_RangeOk_ok,fC ⟨i_isGroup_ok,fC ⟨i_isTx_ok,fC ⟨i_WritesOk_ok,fC ⟨i_PartsOk_ok,fC ⟨cofCO_ok,fN⟩⟩⟩⟩⟩⟩⟩⟩)
abbrev i_ClientOkK:List Nat:= [0,1,2,3,23,44,67]
theorem i_ClientOk_ev (N:Nat) (p:List D):evFn Tryz.prog i_ClientOkT N i_ClientOkK Tryz.f151 rb [⟨ag rIClient,p⟩]=some (bo,
 bif !(inB (gd p 0).int 0 5) then ob false
 else bif !(inB (gd p 2).int (0) (1000000000)) then ob false
 else bif (gd p 2).int==0 then bif (gd p 0).int != 0 then ob false
 else bif (gd p 5).int==0 then bif (gd p 6).int==0 then bif (gd p 0).int==0 then bif (gd p 7).int==0 then bif (gd p 1).int==0 then ob ((w64 ((w64 (((gd p 3).rows.length:Int)+((gd p 4).rows.length:Int)))+((gd p 8).rows.length:Int)))==0)
 else ob false
 else ob false
 else bif (gd p 0).int==1 then bif (gd p 7).int==0 then bif (gd p 1).int==0 then ob ((w64 ((w64 (((gd p 3).rows.length:Int)+((gd p 4).rows.length:Int)))+((gd p 8).rows.length:Int)))==0)
 else ob false
 else ob false
 else bif (gd p 0).int==3 then bif rangeOk (sub p 5 2) then bif inB (gd p 7).int (0) (3) then bif inB (gd p 1).int 1 60 then bif writesOk (gd p 3) then bif leI ((gd p 4).rows.length:Int) 16 then bif partsOk (gd p 8) then ob (!(anyS (fun r=>ixfCOC (.l [[]]) (sub r 0 3)) (gd p 4)))
 else ob false
 else ob false
 else ob false
 else ob false
 else ob false
 else ob false
 else bif (gd p 7).int==0 then bif inB (gd p 1).int 1 60 then bif writesOk (gd p 3) then bif leI ((gd p 4).rows.length:Int) 16 then bif partsOk (gd p 8) then ob (!(anyS (fun r=>ixfCOC (.l [[]]) (sub r 0 3)) (gd p 4)))
 else ob false
 else ob false
 else ob false
 else ob false
 else ob false
 else bif (gd p 0).int==0 then ob false
 else bif (gd p 0).int==1 then ob false
 else bif (gd p 0).int==3 then bif rangeOk (sub p 5 2) then bif inB (gd p 7).int (0) (3) then bif inB (gd p 1).int 1 60 then bif writesOk (gd p 3) then bif leI ((gd p 4).rows.length:Int) 16 then bif partsOk (gd p 8) then ob (!(anyS (fun r=>ixfCOC (.l [[]]) (sub r 0 3)) (gd p 4)))
 else ob false
 else ob false
 else ob false
 else ob false
 else ob false
 else ob false
 else ob false
 else bif (gd p 0).int==0 then ob false
 else bif (gd p 0).int==1 then ob false
 else bif (gd p 0).int==3 then bif rangeOk (sub p 5 2) then bif inB (gd p 7).int (0) (3) then bif inB (gd p 1).int 1 60 then bif writesOk (gd p 3) then bif leI ((gd p 4).rows.length:Int) 16 then bif partsOk (gd p 8) then ob (!(anyS (fun r=>ixfCOC (.l [[]]) (sub r 0 3)) (gd p 4)))
 else ob false
 else ob false
 else ob false
 else ob false
 else ob false
 else ob false
 else ob false
 else bif (gd p 5).int==0 then bif (gd p 6).int==0 then bif (gd p 0).int==0 then bif (gd p 7).int==0 then bif (gd p 1).int==0 then ob ((w64 ((w64 (((gd p 3).rows.length:Int)+((gd p 4).rows.length:Int)))+((gd p 8).rows.length:Int)))==0)
 else ob false
 else ob false
 else bif (gd p 0).int==1 then bif (gd p 7).int==0 then bif (gd p 1).int==0 then ob ((w64 ((w64 (((gd p 3).rows.length:Int)+((gd p 4).rows.length:Int)))+((gd p 8).rows.length:Int)))==0)
 else ob false
 else ob false
 else bif (gd p 0).int==3 then bif rangeOk (sub p 5 2) then bif inB (gd p 7).int (0) (3) then bif inB (gd p 1).int 1 60 then bif writesOk (gd p 3) then bif leI ((gd p 4).rows.length:Int) 16 then bif partsOk (gd p 8) then ob (!(anyS (fun r=>ixfCOC (.l [[]]) (sub r 0 3)) (gd p 4)))
 else ob false
 else ob false
 else ob false
 else ob false
 else ob false
 else ob false
 else bif (gd p 7).int==0 then bif inB (gd p 1).int 1 60 then bif writesOk (gd p 3) then bif leI ((gd p 4).rows.length:Int) 16 then bif partsOk (gd p 8) then ob (!(anyS (fun r=>ixfCOC (.l [[]]) (sub r 0 3)) (gd p 4)))
 else ob false
 else ob false
 else ob false
 else ob false
 else ob false
 else bif (gd p 0).int==0 then ob false
 else bif (gd p 0).int==1 then ob false
 else bif (gd p 0).int==3 then bif rangeOk (sub p 5 2) then bif inB (gd p 7).int (0) (3) then bif inB (gd p 1).int 1 60 then bif writesOk (gd p 3) then bif leI ((gd p 4).rows.length:Int) 16 then bif partsOk (gd p 8) then ob (!(anyS (fun r=>ixfCOC (.l [[]]) (sub r 0 3)) (gd p 4)))
 else ob false
 else ob false
 else ob false
 else ob false
 else ob false
 else ob false
 else ob false
 else bif (gd p 0).int==0 then ob false
 else bif (gd p 0).int==1 then ob false
 else bif (gd p 0).int==3 then bif rangeOk (sub p 5 2) then bif inB (gd p 7).int (0) (3) then bif inB (gd p 1).int 1 60 then bif writesOk (gd p 3) then bif leI ((gd p 4).rows.length:Int) 16 then bif partsOk (gd p 8) then ob (!(anyS (fun r=>ixfCOC (.l [[]]) (sub r 0 3)) (gd p 4)))
 else ob false
 else ob false
 else ob false
 else ob false
 else ob false
 else ob false
 else ob false):=by kernel_rfl
def clientSmall (p:List D):Bool:=leI ((gd p 3).rows.length:Int) 1000000000&&(leI ((gd p 4).rows.length:Int) 1000000000&&leI ((gd p 8).rows.length:Int) 1000000000)
def clientIdle (p:List D):Bool:=((gd p 5).int==0)&&(((gd p 6).int==0)&&(((gd p 7).int==0)&&(((gd p 1).int==0)&&((((gd p 3).rows.length:Int)==0)&&((((gd p 4).rows.length:Int)==0)&&(((gd p 8).rows.length:Int)==0))))))
def clientBusy (p:List D):Bool:=inB (gd p 1).int 1 60&&(writesOk (gd p 3)&&(seenOk (gd p 4)&&partsOk (gd p 8)))
def clientPlace (p:List D):Bool:=bif (gd p 0).int==3 then rangeOk [gd p 5,gd p 6]&&inB (gd p 7).int 0 3 else ((gd p 5).int==0)&&(((gd p 6).int==0)&&((gd p 7).int==0))
def clientOk (p:List D):Bool:=inB (gd p 0).int 0 5&&(inB (gd p 2).int 0 1000000000&&(!(((gd p 2).int==0) && !((gd p 0).int==0))&&(bif ltI (gd p 0).int 2 then clientIdle p else clientPlace p&&clientBusy p)))
theorem seen_any (z:D):(!(anyS (fun r=>ixfCOC (.l [[]]) (sub r 0 3)) z))=(List.range z.rows.length).all (seenAt z):=by
 have:(fun k=>seenAt z k)=fun k => !(ixfCOC (.l [[]]) (sub (z.rows.getD k []) 0 3)):=by
  funext k
  unfold seenAt ixfCOC i_ClientOk_1F
  simp only [gd_cons_zero,gd_cons_succ,sub]
  cases inB (gd (z.rows.getD k []) 0).int 0 3 <;> simp
 show _=(List.range z.rows.length).all fun k=>seenAt z k
 rw [this,not_any]
 rfl
theorem seen_split (z:D):(leI (z.rows.length:Int) 16 && !(anyS (fun r=>ixfCOC (.l [[]]) (sub r 0 3)) z))=seenOk z:=by
 rw [seen_any,Bool.and_comm]; rfl
theorem sum_zero {a b c:Nat} (ha:leI (a:Int) 1000000000=true) (hb:leI (b:Int) 1000000000=true) (hc:leI (c:Int) 1000000000=true):(w64 ((w64 ((a:Int)+(b:Int)))+(c:Int))==0)=(((a:Int)==0)&&(((b:Int)==0)&&((c:Int)==0))):=by
 simp only [leI,decide_eq_true_eq] at ha hb hc
 rw [w64_id (x:=(a:Int)+b) (by omega) (by omega),w64_id (by omega) (by omega),Bool.eq_iff_iff]
 simp only [Bool.and_eq_true,beq_iff_eq]
 omega
theorem stage_lt (x:Int) (h:inB x 0 5=true):ltI x 2=((x==0)||(x==1)):=by
 simp only [inB,Bool.and_eq_true,decide_eq_true_eq] at h
 rw [Bool.eq_iff_iff]
 simp only [ltI,Bool.or_eq_true,beq_iff_eq,decide_eq_true_eq]
 omega
def i_ClientOkE:Ent:=(151,e1 (ag rIClient) fun p=>(⟨rb,[.b (clientOk p)]⟩,clientSmall p))
theorem i_ClientOk_ok:EntOk Tryz.prog i_ClientOkE:=e1_ok fun p h=>evFn_sound (N:=0) (ks:=i_ClientOkK) (key:=bo) i_ClientOkT_ok (enters Tryz.func151) Tryz.func151 fun hw=>by
 rw [i_ClientOk_ev]
 have h:clientSmall p=true:=h
 simp only [clientSmall,Bool.and_eq_true] at h
 rw [sum_zero h.1 h.2.1 h.2.2]
 rw [show rangeOk (sub p 5 2)=rangeOk [gd p 5,gd p 6] from rfl]
 simp only [bne_not]
 unfold clientOk clientIdle clientPlace clientBusy
 rw [← seen_split]
 cases hst:inB (gd p 0).int 0 5
 ·rfl
 rw [stage_lt _ hst]
 cases inB (gd p 2).int 0 1000000000
 ·rfl
 generalize anyS (fun r=>ixfCOC (.l [[]]) (sub r 0 3)) (gd p 4)=sa
 generalize (((gd p 3).rows.length:Int)==0)=l3
 generalize (((gd p 4).rows.length:Int)==0)=l4
 generalize (((gd p 8).rows.length:Int)==0)=l8
 have h30:((gd p 0).int==0)=true→((gd p 0).int==3)=false:=fun h=>by rw [eq_of_beq h]; rfl
 have h31:((gd p 0).int==1)=true→((gd p 0).int==3)=false:=fun h=>by rw [eq_of_beq h]; rfl
 generalize hs0:((gd p 0).int==0)=s0 at *
 generalize hs1:((gd p 0).int==1)=s1 at *
 generalize hs3:((gd p 0).int==3)=s3 at *
 clear hs0 hs1 hs3 hst h
 generalize ((gd p 2).int==0)=r0
 generalize ((gd p 5).int==0)=a5
 generalize ((gd p 6).int==0)=a6
 generalize ((gd p 7).int==0)=a7
 generalize ((gd p 1).int==0)=a1
 generalize rangeOk [gd p 5,gd p 6]=rg
 generalize inB (gd p 7).int 0 3=g7
 generalize inB (gd p 1).int 1 60=t1
 generalize writesOk (gd p 3)=wo
 generalize leI ((gd p 4).rows.length:Int) 16=l16
 generalize partsOk (gd p 8)=po
 cases r0 <;> cases s0 <;> cases s1 <;> cases a5 <;> cases a6 <;> cases a7 <;> try rfl
 all_goals (cases a1 <;> cases s3 <;> try rfl)
 all_goals (cases rg <;> cases g7 <;> try rfl)
 all_goals (cases t1 <;> try rfl)
 all_goals (cases wo <;> try rfl)
 all_goals (cases l16 <;> try rfl)
 all_goals (cases po <;> try rfl)
 all_goals (cases sa <;> rfl)
abbrev s_ClientOkT:FuncId→List T→Option (T × Bool):=find [s_l1InE,s_l1WholeE,s_l16RangeOkE,s_l15GroupE,s_l12TxE,s_WritesOkE,s_l16SeenOkE,s_PartsOkE]
theorem s_ClientOkT_ok:CallOk Tryz.prog s_ClientOkT:=find_ok (fC ⟨s_l1In_ok,fC ⟨s_l1Whole_ok,fC ⟨s_l16RangeOk_ok,fC ⟨s_l15Group_ok,fC ⟨s_l12Tx_ok,fC ⟨s_WritesOk_ok,fC ⟨s_l16SeenOk_ok,fC ⟨s_PartsOk_ok,fN⟩⟩⟩⟩⟩⟩⟩⟩)
abbrev s_ClientOkK:List Nat:= [0,1,2,3,23,39,66]
theorem s_ClientOk_ev (N:Nat) (p:List D):evFn Tryz.prog s_ClientOkT N s_ClientOkK Tryz.f113 rb [⟨ag rIClient,p⟩]=some (bo,
 bif !(inB (gd p 0).int 0 5) then ob false
 else bif !(inB (gd p 2).int (0) (1000000000)) then ob false
 else bif (gd p 0).int != 0 then bif (gd p 2).int==0 then ob false
 else bif (gd p 5).int==0 then bif (gd p 6).int==0 then bif ltI (gd p 0).int 2 then bif (gd p 7).int==0 then bif (gd p 1).int==0 then bif ((gd p 3).rows.length:Int)==0 then bif ((gd p 4).rows.length:Int)==0 then ob (((gd p 8).rows.length:Int)==0)
 else ob false
 else ob false
 else ob false
 else ob false
 else bif (gd p 0).int==3 then bif rangeOk [(gd p 5),(gd p 6)] then bif inB (gd p 7).int 0 3 then bif inB (gd p 1).int 1 60 then bif writesOk (gd p 3) then bif seenOk (gd p 4) then ob (partsOk (gd p 8))
 else ob false
 else ob false
 else ob false
 else ob false
 else ob false
 else bif (gd p 7).int==0 then bif inB (gd p 1).int 1 60 then bif writesOk (gd p 3) then bif seenOk (gd p 4) then ob (partsOk (gd p 8))
 else ob false
 else ob false
 else ob false
 else ob false
 else bif ltI (gd p 0).int 2 then ob false
 else bif (gd p 0).int==3 then bif rangeOk [(gd p 5),(gd p 6)] then bif inB (gd p 7).int 0 3 then bif inB (gd p 1).int 1 60 then bif writesOk (gd p 3) then bif seenOk (gd p 4) then ob (partsOk (gd p 8))
 else ob false
 else ob false
 else ob false
 else ob false
 else ob false
 else ob false
 else bif ltI (gd p 0).int 2 then ob false
 else bif (gd p 0).int==3 then bif rangeOk [(gd p 5),(gd p 6)] then bif inB (gd p 7).int 0 3 then bif inB (gd p 1).int 1 60 then bif writesOk (gd p 3) then bif seenOk (gd p 4) then ob (partsOk (gd p 8))
 else ob false
 else ob false
 else ob false
 else ob false
 else ob false
 else ob false
 else bif (gd p 5).int==0 then bif (gd p 6).int==0 then bif ltI (gd p 0).int 2 then bif (gd p 7).int==0 then bif (gd p 1).int==0 then bif ((gd p 3).rows.length:Int)==0 then bif ((gd p 4).rows.length:Int)==0 then ob (((gd p 8).rows.length:Int)==0)
 else ob false
 else ob false
 else ob false
 else ob false
 else bif (gd p 0).int==3 then bif rangeOk [(gd p 5),(gd p 6)] then bif inB (gd p 7).int 0 3 then bif inB (gd p 1).int 1 60 then bif writesOk (gd p 3) then bif seenOk (gd p 4) then ob (partsOk (gd p 8))
 else ob false
 else ob false
 else ob false
 else ob false
 else ob false
 else bif (gd p 7).int==0 then bif inB (gd p 1).int 1 60 then bif writesOk (gd p 3) then bif seenOk (gd p 4) then ob (partsOk (gd p 8))
 else ob false
 else ob false
 else ob false
 else ob false
 else bif ltI (gd p 0).int 2 then ob false
 else bif (gd p 0).int==3 then bif rangeOk [(gd p 5),(gd p 6)] then bif inB (gd p 7).int 0 3 then bif inB (gd p 1).int 1 60 then bif writesOk (gd p 3) then bif seenOk (gd p 4) then ob (partsOk (gd p 8))
 else ob false
 else ob false
 else ob false
 else ob false
 else ob false
 else ob false
 else bif ltI (gd p 0).int 2 then ob false
 else bif (gd p 0).int==3 then bif rangeOk [(gd p 5),(gd p 6)] then bif inB (gd p 7).int 0 3 then bif inB (gd p 1).int 1 60 then bif writesOk (gd p 3) then bif seenOk (gd p 4) then ob (partsOk (gd p 8))
 else ob false
 else ob false
 else ob false
 else ob false
 else ob false
 else ob false):=by kernel_rfl
def s_ClientOkE:Ent:=(113,e1 (ag rIClient) fun p=>(⟨rb,[.b (clientOk p)]⟩,true))
theorem s_ClientOk_ok:EntOk Tryz.prog s_ClientOkE:=e1_ok fun p h=>evFn_sound (N:=0) (ks:=s_ClientOkK) (key:=bo) s_ClientOkT_ok (enters Tryz.func113) Tryz.func113 fun hw=>by
 rw [s_ClientOk_ev]
 simp only [bne_not]
 unfold clientOk clientIdle clientPlace clientBusy
 generalize inB (gd p 0).int 0 5=st
 generalize inB (gd p 2).int 0 1000000000=rq
 generalize ltI (gd p 0).int 2=lt
 generalize (((gd p 3).rows.length:Int)==0)=l3
 generalize (((gd p 4).rows.length:Int)==0)=l4
 generalize (((gd p 8).rows.length:Int)==0)=l8
 generalize ((gd p 0).int==0)=s0
 generalize ((gd p 0).int==3)=s3
 generalize ((gd p 2).int==0)=r0
 generalize ((gd p 5).int==0)=a5
 generalize ((gd p 6).int==0)=a6
 generalize ((gd p 7).int==0)=a7
 generalize ((gd p 1).int==0)=a1
 generalize rangeOk [gd p 5,gd p 6]=rg
 generalize inB (gd p 7).int 0 3=g7
 generalize inB (gd p 1).int 1 60=t1
 generalize writesOk (gd p 3)=wo
 generalize seenOk (gd p 4)=so
 generalize partsOk (gd p 8)=po
 cases st <;> try rfl
 cases rq <;> try rfl
 cases r0 <;> cases s0 <;> cases lt <;> cases a5 <;> cases a6 <;> cases a7 <;> try rfl
 all_goals (cases a1 <;> cases s3 <;> try rfl)
 all_goals (cases rg <;> cases g7 <;> try rfl)
 all_goals (cases t1 <;> try rfl)
 all_goals (cases wo <;> try rfl)
 all_goals (cases so <;> try rfl)
 all_goals (cases po <;> try rfl)
 all_goals (cases l3 <;> try rfl)
 all_goals (cases l4 <;> rfl)
end Go.Proofs.YtecefnhhlaolmaaGreat
