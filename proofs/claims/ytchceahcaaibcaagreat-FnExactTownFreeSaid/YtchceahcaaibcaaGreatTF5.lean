/-
 Texts of the proof,put together: part 5.
-/
import Derived.Test.YtchceahcaaibcaaGreatTF1
import Derived.Test.YtchceahcaaibcaaGreatTF2
import Derived.Test.YtchceahcaaibcaaGreatTF3
import Derived.Test.YtchceahcaaibcaaGreatTF4
set_option linter.unusedSimpArgs false
set_option linter.unusedVariables false
set_option linter.unusedSectionVars false
namespace Go.Proofs.YtchceahcaaibcaaGreat
set_option maxRecDepth 4096
abbrev i_RangesOkT:FuncId→List T→Option (T × Bool):=find [i_RangeOkE]
theorem i_RangesOkT_ok:CallOk Tryz.prog i_RangesOkT:=find_ok (fC ⟨i_RangeOk_ok,fN⟩)
abbrev i_RangesOkK:List Nat:= [0,2,3,4,5,6,7,8,29]
noncomputable def i_RangesOkL0 (N:Nat) (p:List D):List D→Out:=loopOf Tryz.prog i_RangesOkT N i_RangesOkK Tryz.f161 rb [⟨sd (.sl 122),p⟩] 0
theorem i_RangesOkR0 (N:Nat) (p:List D) (x0 x1 x2 x3 x4:D):(i_RangesOkL0 N p) [x0,x1,x2,x3,x4] =
 bif ltI x4.int x3.int then nd (inRange x4.int x2.rows.length) (bif !(rangeOk (sub (x2.rows.getD x4.int.toNat []) 0 2)) then ob false
 else bif ltI 0 x4.int then nd (inRange (w64 (x4.int - 1)) x0.rows.length) (bif ltI (gd (x2.rows.getD x4.int.toNat []) 0).int (gd (x0.rows.getD (w64 (x4.int - 1)).toNat []) 1).int then ob false
 else nx [x0,x1,x2,x3,.i (w64 (x4.int+1))])
 else nx [x0,x1,x2,x3,.i (w64 (x4.int+1))])
 else ex 0 [x0,x1,x2,x3,x4]:=by kernel_rfl
theorem i_RangesOk_ev (N:Nat) (p:List D):evFn Tryz.prog i_RangesOkT N i_RangesOkK Tryz.f161 rb [⟨sd (.sl 122),p⟩]=some (bo,
 (let o0:=iter (i_RangesOkL0 N p) N [gd p 0,.i 0,gd p 0,.i ((gd p 0).rows.length:Int),.i 0]
  nd o0.isSome (bif o0.code==1 then some (1,o0.pay)
  else nd (o0.code==2) (ob (leI ((gd o0.pay 0).rows.length:Int) 16))))):=by kernel_rfl
def rangesAt (z:D):Nat→Bool
 | 0=>rangeOk (sub (z.rows.getD 0 []) 0 2)
 | k+1=>rangeOk (sub (z.rows.getD (k+1) []) 0 2) && !ltI (gd (z.rows.getD (k+1) []) 0).int (gd (z.rows.getD k []) 1).int
def rangesOk (z:D):Bool:=(List.range z.rows.length).all (rangesAt z)&&leI (z.rows.length:Int) 16
def i_RangesOkE:Ent:=(161,e1 (sd (.sl 122)) fun p=>(⟨rb,[.b (rangesOk (gd p 0))]⟩,true))
theorem i_RangesOk_ok:EntOk Tryz.prog i_RangesOkE:=e1_ok fun p h=>evFn_sound (N:=(gd p 0).rows.length+1) (ks:=i_RangesOkK) (key:=bo) i_RangesOkT_ok (enters Tryz.func161) Tryz.func161 fun hw=>by
 rw [i_RangesOk_ev]
 have hl:=wt_sl (hw ⟨sd (.sl 122),p⟩ (by simp))
 have e:=for_loop (L:=i_RangesOkL0 ((gd p 0).rows.length+1) p) (fun k => [(gd p 0),.i 0,(gd p 0),.i ((gd p 0).rows.length:Int),.i (k:Int)]) (gd p 0).rows.length (rangesAt (gd p 0)) [.b false] 0 (fun k hk=>?_) ?_ (N:=((gd p 0).rows.length+1)) (by omega)
 ·simp only [Int.natCast_zero] at e
  rw [e]
  unfold rangesOk
  cases (List.range (gd p 0).rows.length).all (rangesAt (gd p 0)) <;> rfl
 ·cases k with
  | zero =>
   show i_RangesOkL0 _ p [_,_,_,_,.i ((0:Nat):Int)]=_
   rw [i_RangesOkR0]
   simp only [int_i,c_lt hk,nd_ix hk,w64_succ hk hl,Int.toNat_natCast,bne_not,ltI_00,rangesAt]
   cases rangeOk (sub ((gd p 0).rows.getD 0 []) 0 2) <;> rfl
  | succ k =>
   show i_RangesOkL0 _ p [_,_,_,_,.i ((k+1:Nat):Int)]=_
   rw [i_RangesOkR0]
   simp only [int_i,c_lt hk,nd_ix hk,w64_succ hk hl,Int.toNat_natCast,bne_not,ltI_0s,w64_pred (show k+1≤9223372036854775807 from by omega),nd_ix (Nat.lt_of_succ_lt hk),rangesAt]
   cases rangeOk (sub ((gd p 0).rows.getD (k+1) []) 0 2) <;> cases ltI (gd ((gd p 0).rows.getD (k+1) []) 0).int (gd ((gd p 0).rows.getD k []) 1).int <;> rfl
 ·show i_RangesOkL0 _ p [_,_,_,.i ((gd p 0).rows.length:Int),.i ((gd p 0).rows.length:Int)]=_
  rw [i_RangesOkR0]
  simp only [int_i,c_nlt]
abbrev s_RangesOkT:FuncId→List T→Option (T × Bool):=find [s_RangeOkE]
theorem s_RangesOkT_ok:CallOk Tryz.prog s_RangesOkT:=find_ok (fC ⟨s_RangeOk_ok,fN⟩)
abbrev s_RangesOkK:List Nat:= [0,2,3,6,10,36]
noncomputable def s_RangesOkL0 (N:Nat) (p:List D):List D→Out:=loopOf Tryz.prog s_RangesOkT N s_RangesOkK Tryz.f133 rb [⟨sd (.sl 122),p⟩] 0
theorem s_RangesOkR0 (N:Nat) (p:List D) (x0 x1 x2 x3:D):(s_RangesOkL0 N p) [x0,x1,x2,x3] =
 bif ltI x3.int (x0.rows.length:Int) then nd (inRange x3.int x0.rows.length) (bif !(rangeOk (sub (x0.rows.getD x3.int.toNat []) 0 2)) then ob false
 else bif ltI 0 x3.int then nd (inRange x3.int x0.rows.length) (nd (inRange (w64 (x3.int - 1)) x0.rows.length) (bif ltI (gd (x0.rows.getD x3.int.toNat []) 0).int (gd (x0.rows.getD (w64 (x3.int - 1)).toNat []) 1).int then ob false
 else nx [x0,x1,x2,.i (w64 (x3.int+1))]))
 else nx [x0,x1,x2,.i (w64 (x3.int+1))])
 else ex 0 [x0,x1,x2,x3]:=by kernel_rfl
theorem s_RangesOk_ev (N:Nat) (p:List D):evFn Tryz.prog s_RangesOkT N s_RangesOkK Tryz.f133 rb [⟨sd (.sl 122),p⟩]=some (bo,
 bif ltI 16 ((gd p 0).rows.length:Int) then ob false
 else (let o0:=iter (s_RangesOkL0 N p) N [gd p 0,.i 0,.b (ltI 16 ((gd p 0).rows.length:Int)),.i 0]
  nd o0.isSome (bif o0.code==1 then some (1,o0.pay)
  else nd (o0.code==2) (ob true)))):=by kernel_rfl
def s_RangesOkE:Ent:=(133,e1 (sd (.sl 122)) fun p=>(⟨rb,[.b (rangesOk (gd p 0))]⟩,true))
theorem s_RangesOk_ok:EntOk Tryz.prog s_RangesOkE:=e1_ok fun p h=>evFn_sound (N:=(gd p 0).rows.length+1) (ks:=s_RangesOkK) (key:=bo) s_RangesOkT_ok (enters Tryz.func133) Tryz.func133 fun hw=>by
 rw [s_RangesOk_ev]
 have hl:=wt_sl (hw ⟨sd (.sl 122),p⟩ (by simp))
 unfold rangesOk
 by_cases hb:(gd p 0).rows.length≤16
 ·rw [ltI_f (show ((gd p 0).rows.length:Int)≤16 from by omega),leI_t (show ((gd p 0).rows.length:Int)≤16 from by omega),cond_false]
  have e:=for_loop (L:=s_RangesOkL0 ((gd p 0).rows.length+1) p) (fun k => [(gd p 0),.i 0,.b false,.i (k:Int)]) (gd p 0).rows.length (rangesAt (gd p 0)) [.b false] 0 (fun k hk=>?_) ?_ (N:=((gd p 0).rows.length+1)) (by omega)
  ·simp only [Int.natCast_zero] at e
   rw [e]
   cases (List.range (gd p 0).rows.length).all (rangesAt (gd p 0)) <;> rfl
  ·cases k with
   | zero =>
    show s_RangesOkL0 _ p [_,_,_,.i ((0:Nat):Int)]=_
    rw [s_RangesOkR0]
    simp only [int_i,c_lt hk,nd_ix hk,w64_succ hk hl,Int.toNat_natCast,bne_not,ltI_00,rangesAt]
    cases rangeOk (sub ((gd p 0).rows.getD 0 []) 0 2) <;> rfl
   | succ k =>
    show s_RangesOkL0 _ p [_,_,_,.i ((k+1:Nat):Int)]=_
    rw [s_RangesOkR0]
    simp only [int_i,c_lt hk,nd_ix hk,w64_succ hk hl,Int.toNat_natCast,bne_not,ltI_0s,w64_pred (show k+1≤9223372036854775807 from by omega),nd_ix (Nat.lt_of_succ_lt hk),rangesAt]
    cases rangeOk (sub ((gd p 0).rows.getD (k+1) []) 0 2) <;> cases ltI (gd ((gd p 0).rows.getD (k+1) []) 0).int (gd ((gd p 0).rows.getD k []) 1).int <;> rfl
  ·show s_RangesOkL0 _ p [_,_,_,.i ((gd p 0).rows.length:Int)]=_
   rw [s_RangesOkR0]
   simp only [int_i,c_nlt]
 ·rw [ltI_t (show (16:Int)<((gd p 0).rows.length:Int) from by omega),leI_f (show (16:Int)<((gd p 0).rows.length:Int) from by omega),Bool.and_false]
  rfl
abbrev i_StoreOkT:FuncId→List T→Option (T × Bool):=find [i_isKeyE,i_isWholeE]
theorem i_StoreOkT_ok:CallOk Tryz.prog i_StoreOkT:=find_ok (fC ⟨i_isKey_ok,fC ⟨i_isWhole_ok,fN⟩⟩)
abbrev i_StoreOkK:List Nat:= [0,2,3,4,5,6,7,8,36]
noncomputable def i_StoreOkL0 (N:Nat) (p:List D):List D→Out:=loopOf Tryz.prog i_StoreOkT N i_StoreOkK Tryz.f162 rb [⟨sd (.sl 176),p⟩] 0
theorem i_StoreOkR0 (N:Nat) (p:List D) (x0 x1 x2 x3 x4:D):(i_StoreOkL0 N p) [x0,x1,x2,x3,x4] =
 bif ltI x4.int x3.int then nd (inRange x4.int x2.rows.length) (bif !(inB (gd (x2.rows.getD x4.int.toNat []) 0).int (0) (999)) then ob false
 else bif !(inB (gd (x2.rows.getD x4.int.toNat []) 1).int (0) (1000000000)) then ob false
 else bif ltI 0 x4.int then nd (inRange (w64 (x4.int - 1)) x0.rows.length) (bif leI (gd (x2.rows.getD x4.int.toNat []) 0).int (gd (x0.rows.getD (w64 (x4.int - 1)).toNat []) 0).int then ob false
 else nx [x0,x1,x2,x3,.i (w64 (x4.int+1))])
 else nx [x0,x1,x2,x3,.i (w64 (x4.int+1))])
 else ex 0 [x0,x1,x2,x3,x4]:=by kernel_rfl
theorem i_StoreOk_ev (N:Nat) (p:List D):evFn Tryz.prog i_StoreOkT N i_StoreOkK Tryz.f162 rb [⟨sd (.sl 176),p⟩]=some (bo,
 (let o0:=iter (i_StoreOkL0 N p) N [gd p 0,.i 0,gd p 0,.i ((gd p 0).rows.length:Int),.i 0]
  nd o0.isSome (bif o0.code==1 then some (1,o0.pay)
  else nd (o0.code==2) (ob (leI ((gd o0.pay 0).rows.length:Int) 60))))):=by kernel_rfl
def storeAt (z:D):Nat→Bool
 | 0=>inB (gd (z.rows.getD 0 []) 0).int 0 999&&inB (gd (z.rows.getD 0 []) 1).int 0 1000000000
 | k+1=>inB (gd (z.rows.getD (k+1) []) 0).int 0 999&&(inB (gd (z.rows.getD (k+1) []) 1).int 0 1000000000 && !leI (gd (z.rows.getD (k+1) []) 0).int (gd (z.rows.getD k []) 0).int)
def storeOk (z:D):Bool:=(List.range z.rows.length).all (storeAt z)&&leI (z.rows.length:Int) 60
def i_StoreOkE:Ent:=(162,e1 (sd (.sl 176)) fun p=>(⟨rb,[.b (storeOk (gd p 0))]⟩,true))
theorem i_StoreOk_ok:EntOk Tryz.prog i_StoreOkE:=e1_ok fun p h=>evFn_sound (N:=(gd p 0).rows.length+1) (ks:=i_StoreOkK) (key:=bo) i_StoreOkT_ok (enters Tryz.func162) Tryz.func162 fun hw=>by
 rw [i_StoreOk_ev]
 have hl:=wt_sl (hw ⟨sd (.sl 176),p⟩ (by simp))
 have e:=for_loop (L:=i_StoreOkL0 ((gd p 0).rows.length+1) p) (fun k => [(gd p 0),.i 0,(gd p 0),.i ((gd p 0).rows.length:Int),.i (k:Int)]) (gd p 0).rows.length (storeAt (gd p 0)) [.b false] 0 (fun k hk=>?_) ?_ (N:=((gd p 0).rows.length+1)) (by omega)
 ·simp only [Int.natCast_zero] at e
  rw [e]
  unfold storeOk
  cases (List.range (gd p 0).rows.length).all (storeAt (gd p 0)) <;> rfl
 ·cases k with
  | zero =>
   show i_StoreOkL0 _ p [_,_,_,_,.i ((0:Nat):Int)]=_
   rw [i_StoreOkR0]
   simp only [int_i,c_lt hk,nd_ix hk,w64_succ hk hl,Int.toNat_natCast,bne_not,ltI_00,storeAt]
   cases inB (gd ((gd p 0).rows.getD 0 []) 0).int 0 999 <;> cases inB (gd ((gd p 0).rows.getD 0 []) 1).int 0 1000000000 <;> rfl
  | succ k =>
   show i_StoreOkL0 _ p [_,_,_,_,.i ((k+1:Nat):Int)]=_
   rw [i_StoreOkR0]
   simp only [int_i,c_lt hk,nd_ix hk,w64_succ hk hl,Int.toNat_natCast,bne_not,ltI_0s,w64_pred (show k+1≤9223372036854775807 from by omega),nd_ix (Nat.lt_of_succ_lt hk),storeAt]
   cases inB (gd ((gd p 0).rows.getD (k+1) []) 0).int 0 999 <;> cases inB (gd ((gd p 0).rows.getD (k+1) []) 1).int 0 1000000000 <;> cases leI (gd ((gd p 0).rows.getD (k+1) []) 0).int (gd ((gd p 0).rows.getD k []) 0).int <;> rfl
 ·show i_StoreOkL0 _ p [_,_,_,.i ((gd p 0).rows.length:Int),.i ((gd p 0).rows.length:Int)]=_
  rw [i_StoreOkR0]
  simp only [int_i,c_nlt]
abbrev s_StoreOkT:FuncId→List T→Option (T × Bool):=find [s_l10KeyE,s_l1WholeE]
theorem s_StoreOkT_ok:CallOk Tryz.prog s_StoreOkT:=find_ok (fC ⟨s_l10Key_ok,fC ⟨s_l1Whole_ok,fN⟩⟩)
abbrev s_StoreOkK:List Nat:= [0,2,3,6,10,46]
noncomputable def s_StoreOkL0 (N:Nat) (p:List D):List D→Out:=loopOf Tryz.prog s_StoreOkT N s_StoreOkK Tryz.f127 rb [⟨sd (.sl 176),p⟩] 0
theorem s_StoreOkR0 (N:Nat) (p:List D) (x0 x1 x2 x3:D):(s_StoreOkL0 N p) [x0,x1,x2,x3] =
 bif ltI x3.int (x0.rows.length:Int) then nd (inRange x3.int x0.rows.length) (bif !(inB (gd (x0.rows.getD x3.int.toNat []) 0).int (0) (999)) then ob false
 else nd (inRange x3.int x0.rows.length) (bif !(inB (gd (x0.rows.getD x3.int.toNat []) 1).int (0) (1000000000)) then ob false
 else bif ltI 0 x3.int then nd (inRange (w64 (x3.int - 1)) x0.rows.length) (nd (inRange x3.int x0.rows.length) (bif leI (gd (x0.rows.getD x3.int.toNat []) 0).int (gd (x0.rows.getD (w64 (x3.int - 1)).toNat []) 0).int then ob false
 else nx [x0,x1,x2,.i (w64 (x3.int+1))]))
 else nx [x0,x1,x2,.i (w64 (x3.int+1))]))
 else ex 0 [x0,x1,x2,x3]:=by kernel_rfl
theorem s_StoreOk_ev (N:Nat) (p:List D):evFn Tryz.prog s_StoreOkT N s_StoreOkK Tryz.f127 rb [⟨sd (.sl 176),p⟩]=some (bo,
 bif ltI 60 ((gd p 0).rows.length:Int) then ob false
 else (let o0:=iter (s_StoreOkL0 N p) N [gd p 0,.i 0,.b (ltI 60 ((gd p 0).rows.length:Int)),.i 0]
  nd o0.isSome (bif o0.code==1 then some (1,o0.pay)
  else nd (o0.code==2) (ob true)))):=by kernel_rfl
def s_StoreOkE:Ent:=(127,e1 (sd (.sl 176)) fun p=>(⟨rb,[.b (storeOk (gd p 0))]⟩,true))
theorem s_StoreOk_ok:EntOk Tryz.prog s_StoreOkE:=e1_ok fun p h=>evFn_sound (N:=(gd p 0).rows.length+1) (ks:=s_StoreOkK) (key:=bo) s_StoreOkT_ok (enters Tryz.func127) Tryz.func127 fun hw=>by
 rw [s_StoreOk_ev]
 have hl:=wt_sl (hw ⟨sd (.sl 176),p⟩ (by simp))
 unfold storeOk
 by_cases hb:(gd p 0).rows.length≤60
 ·rw [ltI_f (show ((gd p 0).rows.length:Int)≤60 from by omega),leI_t (show ((gd p 0).rows.length:Int)≤60 from by omega),cond_false]
  have e:=for_loop (L:=s_StoreOkL0 ((gd p 0).rows.length+1) p) (fun k => [(gd p 0),.i 0,.b false,.i (k:Int)]) (gd p 0).rows.length (storeAt (gd p 0)) [.b false] 0 (fun k hk=>?_) ?_ (N:=((gd p 0).rows.length+1)) (by omega)
  ·simp only [Int.natCast_zero] at e
   rw [e]
   cases (List.range (gd p 0).rows.length).all (storeAt (gd p 0)) <;> rfl
  ·cases k with
   | zero =>
    show s_StoreOkL0 _ p [_,_,_,.i ((0:Nat):Int)]=_
    rw [s_StoreOkR0]
    simp only [int_i,c_lt hk,nd_ix hk,w64_succ hk hl,Int.toNat_natCast,bne_not,ltI_00,storeAt]
    cases inB (gd ((gd p 0).rows.getD 0 []) 0).int 0 999 <;> cases inB (gd ((gd p 0).rows.getD 0 []) 1).int 0 1000000000 <;> rfl
   | succ k =>
    show s_StoreOkL0 _ p [_,_,_,.i ((k+1:Nat):Int)]=_
    rw [s_StoreOkR0]
    simp only [int_i,c_lt hk,nd_ix hk,w64_succ hk hl,Int.toNat_natCast,bne_not,ltI_0s,w64_pred (show k+1≤9223372036854775807 from by omega),nd_ix (Nat.lt_of_succ_lt hk),storeAt]
    cases inB (gd ((gd p 0).rows.getD (k+1) []) 0).int 0 999 <;> cases inB (gd ((gd p 0).rows.getD (k+1) []) 1).int 0 1000000000 <;> cases leI (gd ((gd p 0).rows.getD (k+1) []) 0).int (gd ((gd p 0).rows.getD k []) 0).int <;> rfl
  ·show s_StoreOkL0 _ p [_,_,_,.i ((gd p 0).rows.length:Int)]=_
   rw [s_StoreOkR0]
   simp only [int_i,c_nlt]
 ·rw [ltI_t (show (60:Int)<((gd p 0).rows.length:Int) from by omega),leI_f (show (60:Int)<((gd p 0).rows.length:Int) from by omega),Bool.and_false]
  rfl
abbrev i_ascendingT:FuncId→List T→Option (T × Bool):=find [i_isTxE]
theorem i_ascendingT_ok:CallOk Tryz.prog i_ascendingT:=find_ok (fC ⟨i_isTx_ok,fN⟩)
abbrev i_ascendingK:List Nat:= [0,2,3,4,5,6,7,8,27]
noncomputable def i_ascendingL0 (N:Nat) (p:List D):List D→Out:=loopOf Tryz.prog i_ascendingT N i_ascendingK Tryz.f165 rb [⟨sd (.sl 3),p⟩] 0
theorem i_ascendingR0 (N:Nat) (p:List D) (x0 x1 x2 x3 x4:D):(i_ascendingL0 N p) [x0,x1,x2,x3,x4] =
 bif ltI x4.int x3.int then nd (inRange x4.int x2.rows.length) (bif !(inB (gd (x2.rows.getD x4.int.toNat []) 0).int 1 60) then ob false
 else bif ltI 0 x4.int then nd (inRange (w64 (x4.int - 1)) x0.rows.length) (bif leI (gd (x2.rows.getD x4.int.toNat []) 0).int (gd (x0.rows.getD (w64 (x4.int - 1)).toNat []) 0).int then ob false
 else nx [x0,x1,x2,x3,.i (w64 (x4.int+1))])
 else nx [x0,x1,x2,x3,.i (w64 (x4.int+1))])
 else ex 0 [x0,x1,x2,x3,x4]:=by kernel_rfl
theorem i_ascending_ev (N:Nat) (p:List D):evFn Tryz.prog i_ascendingT N i_ascendingK Tryz.f165 rb [⟨sd (.sl 3),p⟩]=some (bo,
 (let o0:=iter (i_ascendingL0 N p) N [gd p 0,.i 0,gd p 0,.i ((gd p 0).rows.length:Int),.i 0]
  nd o0.isSome (bif o0.code==1 then some (1,o0.pay)
  else nd (o0.code==2) (ob true)))):=by kernel_rfl
def ascAt (z:D):Nat→Bool
 | 0=>inB (gd (z.rows.getD 0 []) 0).int 1 60
 | k+1=>inB (gd (z.rows.getD (k+1) []) 0).int 1 60 && !leI (gd (z.rows.getD (k+1) []) 0).int (gd (z.rows.getD k []) 0).int
def ascOk (z:D):Bool:=(List.range z.rows.length).all (ascAt z)
def i_ascendingE:Ent:=(165,e1 (sd (.sl 3)) fun p=>(⟨rb,[.b (ascOk (gd p 0))]⟩,true))
theorem i_ascending_ok:EntOk Tryz.prog i_ascendingE:=e1_ok fun p h=>evFn_sound (N:=(gd p 0).rows.length+1) (ks:=i_ascendingK) (key:=bo) i_ascendingT_ok (enters Tryz.func165) Tryz.func165 fun hw=>by
 rw [i_ascending_ev]
 have hl:=wt_sl (hw ⟨sd (.sl 3),p⟩ (by simp))
 have e:=for_loop (L:=i_ascendingL0 ((gd p 0).rows.length+1) p) (fun k => [(gd p 0),.i 0,(gd p 0),.i ((gd p 0).rows.length:Int),.i (k:Int)]) (gd p 0).rows.length (ascAt (gd p 0)) [.b false] 0 (fun k hk=>?_) ?_ (N:=((gd p 0).rows.length+1)) (by omega)
 ·simp only [Int.natCast_zero] at e
  rw [e]
  unfold ascOk
  cases (List.range (gd p 0).rows.length).all (ascAt (gd p 0)) <;> rfl
 ·cases k with
  | zero =>
   show i_ascendingL0 _ p [_,_,_,_,.i ((0:Nat):Int)]=_
   rw [i_ascendingR0]
   simp only [int_i,c_lt hk,nd_ix hk,w64_succ hk hl,Int.toNat_natCast,bne_not,ltI_00,ascAt]
   cases inB (gd ((gd p 0).rows.getD 0 []) 0).int 1 60 <;> rfl
  | succ k =>
   show i_ascendingL0 _ p [_,_,_,_,.i ((k+1:Nat):Int)]=_
   rw [i_ascendingR0]
   simp only [int_i,c_lt hk,nd_ix hk,w64_succ hk hl,Int.toNat_natCast,bne_not,ltI_0s,w64_pred (show k+1≤9223372036854775807 from by omega),nd_ix (Nat.lt_of_succ_lt hk),ascAt]
   cases inB (gd ((gd p 0).rows.getD (k+1) []) 0).int 1 60 <;> cases leI (gd ((gd p 0).rows.getD (k+1) []) 0).int (gd ((gd p 0).rows.getD k []) 0).int <;> rfl
 ·show i_ascendingL0 _ p [_,_,_,.i ((gd p 0).rows.length:Int),.i ((gd p 0).rows.length:Int)]=_
  rw [i_ascendingR0]
  simp only [int_i,c_nlt]
abbrev s_l13TxsT:FuncId→List T→Option (T × Bool):=find [s_l12TxE]
theorem s_l13TxsT_ok:CallOk Tryz.prog s_l13TxsT:=find_ok (fC ⟨s_l12Tx_ok,fN⟩)
abbrev s_l13TxsK:List Nat:= [0,2,3,7,31]
noncomputable def s_l13TxsL0 (N:Nat) (p:List D):List D→Out:=loopOf Tryz.prog s_l13TxsT N s_l13TxsK Tryz.f135 rb [⟨sd (.sl 3),p⟩] 0
theorem s_l13TxsR0 (N:Nat) (p:List D) (x0 x1 x2:D):(s_l13TxsL0 N p) [x0,x1,x2] =
 bif ltI x2.int (x0.rows.length:Int) then nd (inRange x2.int x0.rows.length) (bif !(inB (gd (x0.rows.getD x2.int.toNat []) 0).int 1 60) then ob false
 else bif ltI 0 x2.int then nd (inRange (w64 (x2.int - 1)) x0.rows.length) (nd (inRange x2.int x0.rows.length) (bif leI (gd (x0.rows.getD x2.int.toNat []) 0).int (gd (x0.rows.getD (w64 (x2.int - 1)).toNat []) 0).int then ob false
 else nx [x0,x1,.i (w64 (x2.int+1))]))
 else nx [x0,x1,.i (w64 (x2.int+1))])
 else ex 0 [x0,x1,x2]:=by kernel_rfl
theorem s_l13Txs_ev (N:Nat) (p:List D):evFn Tryz.prog s_l13TxsT N s_l13TxsK Tryz.f135 rb [⟨sd (.sl 3),p⟩]=some (bo,
 (let o0:=iter (s_l13TxsL0 N p) N [gd p 0,.i 0,.i 0]
  nd o0.isSome (bif o0.code==1 then some (1,o0.pay)
  else nd (o0.code==2) (ob true)))):=by kernel_rfl
def s_l13TxsE:Ent:=(135,e1 (sd (.sl 3)) fun p=>(⟨rb,[.b (ascOk (gd p 0))]⟩,true))
theorem s_l13Txs_ok:EntOk Tryz.prog s_l13TxsE:=e1_ok fun p h=>evFn_sound (N:=(gd p 0).rows.length+1) (ks:=s_l13TxsK) (key:=bo) s_l13TxsT_ok (enters Tryz.func135) Tryz.func135 fun hw=>by
 rw [s_l13Txs_ev]
 have hl:=wt_sl (hw ⟨sd (.sl 3),p⟩ (by simp))
 have e:=for_loop (L:=s_l13TxsL0 ((gd p 0).rows.length+1) p) (fun k => [(gd p 0),.i 0,.i (k:Int)]) (gd p 0).rows.length (ascAt (gd p 0)) [.b false] 0 (fun k hk=>?_) ?_ (N:=((gd p 0).rows.length+1)) (by omega)
 ·simp only [Int.natCast_zero] at e
  rw [e]
  unfold ascOk
  cases (List.range (gd p 0).rows.length).all (ascAt (gd p 0)) <;> rfl
 ·cases k with
  | zero =>
   show s_l13TxsL0 _ p [_,_,.i ((0:Nat):Int)]=_
   rw [s_l13TxsR0]
   simp only [int_i,c_lt hk,nd_ix hk,w64_succ hk hl,Int.toNat_natCast,bne_not,ltI_00,ascAt]
   cases inB (gd ((gd p 0).rows.getD 0 []) 0).int 1 60 <;> rfl
  | succ k =>
   show s_l13TxsL0 _ p [_,_,.i ((k+1:Nat):Int)]=_
   rw [s_l13TxsR0]
   simp only [int_i,c_lt hk,nd_ix hk,w64_succ hk hl,Int.toNat_natCast,bne_not,ltI_0s,w64_pred (show k+1≤9223372036854775807 from by omega),nd_ix (Nat.lt_of_succ_lt hk),ascAt]
   cases inB (gd ((gd p 0).rows.getD (k+1) []) 0).int 1 60 <;> cases leI (gd ((gd p 0).rows.getD (k+1) []) 0).int (gd ((gd p 0).rows.getD k []) 0).int <;> rfl
 ·show s_l13TxsL0 _ p [_,_,.i ((gd p 0).rows.length:Int)]=_
  rw [s_l13TxsR0]
  simp only [int_i,c_nlt]
abbrev s_l16SeenOkT:FuncId→List T→Option (T × Bool):=find [s_l15GroupE,s_l16RangeOkE]
theorem s_l16SeenOkT_ok:CallOk Tryz.prog s_l16SeenOkT:=find_ok (fC ⟨s_l15Group_ok,fC ⟨s_l16RangeOk_ok,fN⟩⟩)
abbrev s_l16SeenOkK:List Nat:= [0,2,3,6,10,33]
noncomputable def s_l16SeenOkL0 (N:Nat) (p:List D):List D→Out:=loopOf Tryz.prog s_l16SeenOkT N s_l16SeenOkK Tryz.f239 rb [⟨sd (.sl 130),p⟩] 0
theorem s_l16SeenOkR0 (N:Nat) (p:List D) (x0 x1 x2 x3:D):(s_l16SeenOkL0 N p) [x0,x1,x2,x3] =
 bif ltI x3.int (x0.rows.length:Int) then nd (inRange x3.int x0.rows.length) (bif !(inB (gd (x0.rows.getD x3.int.toNat []) 0).int 0 3) then ob false
 else nd (inRange x3.int x0.rows.length) (nd (inRange x3.int x0.rows.length) (bif !(rangeOk [(gd (x0.rows.getD x3.int.toNat []) 1),(gd (x0.rows.getD x3.int.toNat []) 2)]) then ob false
 else nx [x0,x1,x2,.i (w64 (x3.int+1))])))
 else ex 0 [x0,x1,x2,x3]:=by kernel_rfl
theorem s_l16SeenOk_ev (N:Nat) (p:List D):evFn Tryz.prog s_l16SeenOkT N s_l16SeenOkK Tryz.f239 rb [⟨sd (.sl 130),p⟩]=some (bo,
 bif ltI 16 ((gd p 0).rows.length:Int) then ob false
 else (let o0:=iter (s_l16SeenOkL0 N p) N [gd p 0,.i 0,.b (ltI 16 ((gd p 0).rows.length:Int)),.i 0]
  nd o0.isSome (bif o0.code==1 then some (1,o0.pay)
  else nd (o0.code==2) (ob true)))):=by kernel_rfl
def seenAt (z:D) (k:Nat):Bool:=inB (gd (z.rows.getD k []) 0).int 0 3&&rangeOk [gd (z.rows.getD k []) 1,gd (z.rows.getD k []) 2]
def seenOk (z:D):Bool:=(List.range z.rows.length).all (seenAt z)&&leI (z.rows.length:Int) 16
def s_l16SeenOkE:Ent:=(239,e1 (sd (.sl 130)) fun p=>(⟨rb,[.b (seenOk (gd p 0))]⟩,true))
theorem s_l16SeenOk_ok:EntOk Tryz.prog s_l16SeenOkE:=e1_ok fun p h=>evFn_sound (N:=(gd p 0).rows.length+1) (ks:=s_l16SeenOkK) (key:=bo) s_l16SeenOkT_ok (enters Tryz.func239) Tryz.func239 fun hw=>by
 rw [s_l16SeenOk_ev]
 have hl:=wt_sl (hw ⟨sd (.sl 130),p⟩ (by simp))
 unfold seenOk
 by_cases hb:(gd p 0).rows.length≤16
 ·rw [ltI_f (show ((gd p 0).rows.length:Int)≤16 from by omega),leI_t (show ((gd p 0).rows.length:Int)≤16 from by omega),cond_false]
  have e:=for_loop (L:=s_l16SeenOkL0 ((gd p 0).rows.length+1) p) (fun k => [(gd p 0),.i 0,.b false,.i (k:Int)]) (gd p 0).rows.length (seenAt (gd p 0)) [.b false] 0 (fun k hk=>?_) ?_ (N:=((gd p 0).rows.length+1)) (by omega)
  ·simp only [Int.natCast_zero] at e
   rw [e]
   cases (List.range (gd p 0).rows.length).all (seenAt (gd p 0)) <;> rfl
  ·show s_l16SeenOkL0 _ p [_,_,_,.i (k:Int)]=_
   rw [s_l16SeenOkR0]
   simp only [int_i,c_lt hk,nd_ix hk,w64_succ hk hl,Int.toNat_natCast,bne_not,seenAt]
   cases inB (gd ((gd p 0).rows.getD k []) 0).int 0 3 <;> cases rangeOk [gd ((gd p 0).rows.getD k []) 1,gd ((gd p 0).rows.getD k []) 2] <;> rfl
  ·show s_l16SeenOkL0 _ p [_,_,_,.i ((gd p 0).rows.length:Int)]=_
   rw [s_l16SeenOkR0]
   simp only [int_i,c_nlt]
 ·rw [ltI_t (show (16:Int)<((gd p 0).rows.length:Int) from by omega),leI_f (show (16:Int)<((gd p 0).rows.length:Int) from by omega),Bool.and_false]
  rfl
abbrev s_l16OwnersInT:FuncId→List T→Option (T × Bool):=find []
theorem s_l16OwnersInT_ok:CallOk Tryz.prog s_l16OwnersInT:=find_ok (fN)
abbrev s_l16OwnersInK:List Nat:= [0,1,4,5,9,18]
noncomputable def s_l16OwnersInL0 (N:Nat) (p q:List D):List D→Out:=loopOf Tryz.prog s_l16OwnersInT N s_l16OwnersInK Tryz.f49 rb [⟨sd (.sl 97),p⟩,⟨ri,q⟩] 0
theorem s_l16OwnersInR0 (N:Nat) (p q:List D) (x0 x1 x2 x3:D):(s_l16OwnersInL0 N p q) [x0,x1,x2,x3] =
 bif ltI x3.int (x0.rows.length:Int) then nd (inRange x3.int x0.rows.length) (bif leI x1.int (gd (x0.rows.getD x3.int.toNat []) 2).int then ob false
 else nx [x0,x1,x2,.i (w64 (x3.int+1))])
 else ex 0 [x0,x1,x2,x3]:=by kernel_rfl
theorem s_l16OwnersIn_ev (N:Nat) (p q:List D):evFn Tryz.prog s_l16OwnersInT N s_l16OwnersInK Tryz.f49 rb [⟨sd (.sl 97),p⟩,⟨ri,q⟩]=some (bo,
 (let o0:=iter (s_l16OwnersInL0 N p q) N [gd p 0,gd q 0,.i 0,.i 0]
  nd o0.isSome (bif o0.code==1 then some (1,o0.pay)
  else nd (o0.code==2) (ob true)))):=by kernel_rfl
def ownersIn (z:D) (n:Int):Bool:=(List.range z.rows.length).all fun k => !leI n (gd (z.rows.getD k []) 2).int
def s_l16OwnersInE:Ent:=(49,e2 (sd (.sl 97)) ri fun p q=>(⟨rb,[.b (ownersIn (gd p 0) (gd q 0).int)]⟩,true))
theorem s_l16OwnersIn_ok:EntOk Tryz.prog s_l16OwnersInE:=e2_ok fun p q h=>evFn_sound (N:=(gd p 0).rows.length+1) (ks:=s_l16OwnersInK) (key:=bo) s_l16OwnersInT_ok (enters Tryz.func49) Tryz.func49 fun hw=>by
 rw [s_l16OwnersIn_ev]
 have hl:=wt_sl (hw ⟨sd (.sl 97),p⟩ (by simp))
 have e:=for_loop (L:=s_l16OwnersInL0 ((gd p 0).rows.length+1) p q) (fun k => [(gd p 0),(gd q 0),.i 0,.i (k:Int)]) (gd p 0).rows.length (fun k => !leI (gd q 0).int (gd ((gd p 0).rows.getD k []) 2).int) [.b false] 0 (fun k hk=>?_) ?_ (N:=((gd p 0).rows.length+1)) (by omega)
 ·simp only [Int.natCast_zero] at e
  rw [e]
  unfold ownersIn
  cases (List.range (gd p 0).rows.length).all (fun k => !leI (gd q 0).int (gd ((gd p 0).rows.getD k []) 2).int) <;> rfl
 ·show s_l16OwnersInL0 _ p q [_,_,_,.i (k:Int)]=_
  rw [s_l16OwnersInR0]
  simp only [int_i,c_lt hk,nd_ix hk,w64_succ hk hl,Int.toNat_natCast,bne_not]
  cases leI (gd q 0).int (gd ((gd p 0).rows.getD k []) 2).int <;> rfl
 ·show s_l16OwnersInL0 _ p q [_,_,_,.i ((gd p 0).rows.length:Int)]=_
  rw [s_l16OwnersInR0]
  simp only [int_i,c_nlt]
abbrev s_l15InT:FuncId→List T→Option (T × Bool):=find [s_l1InE]
theorem s_l15InT_ok:CallOk Tryz.prog s_l15InT:=find_ok (fC ⟨s_l1In_ok,fN⟩)
abbrev s_l15InK:List Nat:= [0,1,3,4,5,9,23]
noncomputable def s_l15InL0 (N:Nat) (p q:List D):List D→Out:=loopOf Tryz.prog s_l15InT N s_l15InK Tryz.f130 rb [⟨sd (.sl 176),p⟩,⟨ag rIMove,q⟩] 0
theorem s_l15InR0 (N:Nat) (p q:List D) (x0 x1 x2 x3 x4 x5 x6 x7 x8 x9 x10 x11 x12 x13 x14 x15 x16 x17:D):(s_l15InL0 N p q) [x0,x1,x2,x3,x4,x5,x6,x7,x8,x9,x10,x11,x12,x13,x14,x15,x16,x17] =
 bif ltI x10.int (x0.rows.length:Int) then nd (inRange x10.int x0.rows.length) (bif !(inB (gd (x0.rows.getD x10.int.toNat []) 0).int x13.int (w64 (x14.int - 1))) then ob false
 else nx [x0,x1,x2,x3,x4,x5,x6,x7,x8,x9,.i (w64 (x10.int+1)),x11,x12,x13,x14,x15,x16,x17])
 else ex 0 [x0,x1,x2,x3,x4,x5,x6,x7,x8,x9,x10,x11,x12,x13,x14,x15,x16,x17]:=by kernel_rfl
theorem s_l15In_ev (N:Nat) (p q:List D):evFn Tryz.prog s_l15InT N s_l15InK Tryz.f130 rb [⟨sd (.sl 176),p⟩,⟨ag rIMove,q⟩]=some (bo,
 (let o0:=iter (s_l15InL0 N p q) N [gd p 0,gd q 0,gd q 1,gd q 2,gd q 3,gd q 4,gd q 5,gd q 6,.i 0,.i 0,.i 0,gd q 0,gd q 1,gd q 2,gd q 3,gd q 4,gd q 5,gd q 6]
  nd o0.isSome (bif o0.code==1 then some (1,o0.pay)
  else nd (o0.code==2) (ob true)))):=by kernel_rfl
def cellsInS (z:D) (q:List D):Bool:=(List.range z.rows.length).all fun k=>inB (gd (z.rows.getD k []) 0).int (gd q 2).int (w64 ((gd q 3).int - 1))
def s_l15InE:Ent:=(130,e2 (sd (.sl 176)) (ag rIMove) fun p q=>(⟨rb,[.b (cellsInS (gd p 0) q)]⟩,true))
theorem s_l15In_ok:EntOk Tryz.prog s_l15InE:=e2_ok fun p q h=>evFn_sound (N:=(gd p 0).rows.length+1) (ks:=s_l15InK) (key:=bo) s_l15InT_ok (enters Tryz.func130) Tryz.func130 fun hw=>by
 rw [s_l15In_ev]
 have hl:=wt_sl (hw ⟨sd (.sl 176),p⟩ (by simp))
 have e:=for_loop (L:=s_l15InL0 ((gd p 0).rows.length+1) p q) (fun k => [(gd p 0),(gd q 0),(gd q 1),(gd q 2),(gd q 3),(gd q 4),(gd q 5),(gd q 6),.i 0,.i 0,.i (k:Int),(gd q 0),(gd q 1),(gd q 2),(gd q 3),(gd q 4),(gd q 5),(gd q 6)]) (gd p 0).rows.length (fun k=>inB (gd ((gd p 0).rows.getD k []) 0).int (gd q 2).int (w64 ((gd q 3).int - 1))) [.b false] 0 (fun k hk=>?_) ?_ (N:=((gd p 0).rows.length+1)) (by omega)
 ·simp only [Int.natCast_zero] at e
  rw [e]
  unfold cellsInS
  cases (List.range (gd p 0).rows.length).all (fun k=>inB (gd ((gd p 0).rows.getD k []) 0).int (gd q 2).int (w64 ((gd q 3).int - 1))) <;> rfl
 ·show s_l15InL0 _ p q [_,_,_,_,_,_,_,_,_,_,.i (k:Int),_,_,_,_,_,_,_]=_
  rw [s_l15InR0]
  simp only [int_i,c_lt hk,nd_ix hk,w64_succ hk hl,Int.toNat_natCast,bne_not]
  cases inB (gd ((gd p 0).rows.getD k []) 0).int (gd q 2).int (w64 ((gd q 3).int - 1)) <;> rfl
 ·show s_l15InL0 _ p q [_,_,_,_,_,_,_,_,_,_,.i ((gd p 0).rows.length:Int),_,_,_,_,_,_,_]=_
  rw [s_l15InR0]
  simp only [int_i,c_nlt]
end Go.Proofs.YtchceahcaaibcaaGreat
namespace Go.Proofs.YtchceahcaaibcaaGreat
set_option maxRecDepth 4096
abbrev i_PartsOkT:FuncId→List T→Option (T × Bool):=find [i_isGroupE,i_fromE]
theorem i_PartsOkT_ok:CallOk Tryz.prog i_PartsOkT:=find_ok (fC ⟨i_isGroup_ok,fC ⟨i_from_ok,fN⟩⟩)
abbrev i_PartsOkK:List Nat:= [0,2,3,5,6,7,8,9,28]
noncomputable def i_PartsOkL0 (N:Nat) (p:List D):List D→Out:=loopOf Tryz.prog i_PartsOkT N i_PartsOkK Tryz.f155 rb [⟨sd (.sl 97),p⟩] 0
theorem i_PartsOkR0 (N:Nat) (p:List D) (x0 x1 x2 x3 x4 x5:D):(i_PartsOkL0 N p) [x0,x1,x2,x3,x4,x5] =
 bif ltI x5.int x4.int then nd (inRange x5.int x3.rows.length) (bif (gd (x3.rows.getD x5.int.toNat []) 0).int != x2.int then ob false
 else bif leI (gd (x3.rows.getD x5.int.toNat []) 1).int (gd (x3.rows.getD x5.int.toNat []) 0).int then ob false
 else bif !(inB (gd (x3.rows.getD x5.int.toNat []) 2).int (0) (3)) then ob false
 else nx [x0,x1,gd (x3.rows.getD x5.int.toNat []) 1,x3,x4,.i (w64 (x5.int+1))])
 else ex 0 [x0,x1,x2,x3,x4,x5]:=by kernel_rfl
theorem i_PartsOk_ev (N:Nat) (p:List D):evFn Tryz.prog i_PartsOkT N i_PartsOkK Tryz.f155 rb [⟨sd (.sl 97),p⟩]=some (bo,
 (let o0:=iter (i_PartsOkL0 N p) N [gd p 0,.i 0,.i 0,gd p 0,.i ((gd p 0).rows.length:Int),.i 0]
  nd o0.isSome (bif o0.code==1 then some (1,o0.pay)
  else nd (o0.code==2) (bif inB ((gd o0.pay 0).rows.length:Int) 1 16 then ob ((gd o0.pay 2).int==1000)
  else ob false)))):=by kernel_rfl
def endD (z:D):Nat→D
 | 0=>.i 0
 | k+1=>gd (z.rows.getD k []) 1
def partAt (z:D) (k:Nat):Bool:=((gd (z.rows.getD k []) 0).int==(endD z k).int)&&(!leI (gd (z.rows.getD k []) 1).int (gd (z.rows.getD k []) 0).int&&inB (gd (z.rows.getD k []) 2).int 0 3)
def partsOk (z:D):Bool:=(List.range z.rows.length).all (partAt z)&&(inB (z.rows.length:Int) 1 16&&(endD z z.rows.length).int==1000)
def i_PartsOkE:Ent:=(155,e1 (sd (.sl 97)) fun p=>(⟨rb,[.b (partsOk (gd p 0))]⟩,true))
theorem i_PartsOk_ok:EntOk Tryz.prog i_PartsOkE:=e1_ok fun p h=>evFn_sound (N:=(gd p 0).rows.length+1) (ks:=i_PartsOkK) (key:=bo) i_PartsOkT_ok (enters Tryz.func155) Tryz.func155 fun hw=>by
 rw [i_PartsOk_ev]
 have hl:=wt_sl (hw ⟨sd (.sl 97),p⟩ (by simp))
 have e:=for_loop (L:=i_PartsOkL0 ((gd p 0).rows.length+1) p) (fun k => [gd p 0,.i 0,endD (gd p 0) k,gd p 0,.i ((gd p 0).rows.length:Int),.i (k:Int)]) (gd p 0).rows.length (partAt (gd p 0)) [.b false] 0 (fun k hk=>?_) ?_ (N:=(gd p 0).rows.length+1) (by omega)
 ·simp only [Int.natCast_zero] at e
  rw [show endD (gd p 0) 0=.i 0 from rfl] at e
  rw [e]
  unfold partsOk
  cases (List.range (gd p 0).rows.length).all (partAt (gd p 0))
  ·rfl
  ·simp only [nd,cond_true,cond_false,Option.isSome_some,Out.code,Out.pay,Option.getD_some,gd_cons_zero,gd_cons_succ,Nat.reduceBEq,Nat.reduceAdd,int_i,bool_b,str_s,rows_l,Bool.not_true,Bool.not_false,beq_self_eq_true,Bool.true_and]
   cases inB ((gd p 0).rows.length:Int) 1 16 <;> rfl
 ·show i_PartsOkL0 _ p [_,_,_,_,_,.i (k:Int)]=_
  rw [i_PartsOkR0]
  simp only [int_i,c_lt hk,nd_ix hk,w64_succ hk hl,Int.toNat_natCast,bne_not,partAt]
  cases (gd ((gd p 0).rows.getD k []) 0).int==(endD (gd p 0) k).int <;> cases leI (gd ((gd p 0).rows.getD k []) 1).int (gd ((gd p 0).rows.getD k []) 0).int <;> cases inB (gd ((gd p 0).rows.getD k []) 2).int 0 3 <;> rfl
 ·show i_PartsOkL0 _ p [_,_,_,_,.i ((gd p 0).rows.length:Int),.i ((gd p 0).rows.length:Int)]=_
  rw [i_PartsOkR0]
  simp only [int_i,c_nlt]
abbrev s_PartsOkT:FuncId→List T→Option (T × Bool):=find [s_l1InE]
theorem s_PartsOkT_ok:CallOk Tryz.prog s_PartsOkT:=find_ok (fC ⟨s_l1In_ok,fN⟩)
abbrev s_PartsOkK:List Nat:= [0,2,3,4,5,26,29,71]
noncomputable def s_PartsOkL0 (N:Nat) (p:List D):List D→Out:=loopOf Tryz.prog s_PartsOkT N s_PartsOkK Tryz.f126 rb [⟨sd (.sl 97),p⟩] 0
theorem s_PartsOkR0 (N:Nat) (p:List D) (x0 x1 x2 x3 x4:D):(s_PartsOkL0 N p) [x0,x1,x2,x3,x4] =
 bif ltI x4.int x2.int then nd (inRange x4.int x0.rows.length) (bif leI (gd (x0.rows.getD x4.int.toNat []) 1).int (gd (x0.rows.getD x4.int.toNat []) 0).int then ob false
 else bif ltI (gd (x0.rows.getD x4.int.toNat []) 0).int 0 then ob false
 else bif ltI 1000 (gd (x0.rows.getD x4.int.toNat []) 1).int then ob false
 else bif !(inB (gd (x0.rows.getD x4.int.toNat []) 2).int 0 3) then ob false
 else bif ltI 0 x4.int then nd (inRange (w64 (x4.int - 1)) x0.rows.length) (bif (gd (x0.rows.getD (w64 (x4.int - 1)).toNat []) 1).int != (gd (x0.rows.getD x4.int.toNat []) 0).int then ob false
 else nx [x0,x1,x2,x3,.i (w64 (x4.int+1))])
 else nx [x0,x1,x2,x3,.i (w64 (x4.int+1))])
 else ex 0 [x0,x1,x2,x3,x4]:=by kernel_rfl
theorem s_PartsOk_ev (N:Nat) (p:List D):evFn Tryz.prog s_PartsOkT N s_PartsOkK Tryz.f126 rb [⟨sd (.sl 97),p⟩]=some (bo,
 bif !(inB ((gd p 0).rows.length:Int) 1 16) then ob false
 else nd (inRange 0 (gd p 0).rows.length) (bif (gd ((gd p 0).rows.getD 0 []) 0).int != 0 then ob false
 else nd (inRange (w64 (((gd p 0).rows.length:Int) - 1)) (gd p 0).rows.length) (bif (gd ((gd p 0).rows.getD (w64 (((gd p 0).rows.length:Int) - 1)).toNat []) 1).int != 1000 then ob false
 else (let o0:=iter (s_PartsOkL0 N p) N [gd p 0,.i 0,.i ((gd p 0).rows.length:Int),.b ((gd ((gd p 0).rows.getD (w64 (((gd p 0).rows.length:Int) - 1)).toNat []) 1).int != 1000),.i 0]
  nd o0.isSome (bif o0.code==1 then some (1,o0.pay)
  else nd (o0.code==2) (ob true)))))):=by kernel_rfl
def partAtS (z:D):Nat→Bool
 | 0 => !leI (gd (z.rows.getD 0 []) 1).int (gd (z.rows.getD 0 []) 0).int&&(!ltI (gd (z.rows.getD 0 []) 0).int 0&&(!ltI 1000 (gd (z.rows.getD 0 []) 1).int&&inB (gd (z.rows.getD 0 []) 2).int 0 3))
 | k+1 => !leI (gd (z.rows.getD (k+1) []) 1).int (gd (z.rows.getD (k+1) []) 0).int&&(!ltI (gd (z.rows.getD (k+1) []) 0).int 0&&(!ltI 1000 (gd (z.rows.getD (k+1) []) 1).int&&(inB (gd (z.rows.getD (k+1) []) 2).int 0 3&&((gd (z.rows.getD k []) 1).int==(gd (z.rows.getD (k+1) []) 0).int))))
theorem parts_same (z:D) (n:Nat) (hn:z.rows.length=n+1):((List.range z.rows.length).all (partAt z)&&(endD z z.rows.length).int==1000)=(((gd (z.rows.getD 0 []) 0).int==0)&&(((gd (z.rows.getD n []) 1).int==1000)&&(List.range z.rows.length).all (partAtS z))):=by
 rw [hn,Bool.eq_iff_iff]
 simp only [Bool.and_eq_true,List.all_eq_true,List.mem_range,beq_iff_eq,endD]
 constructor
 ·rintro ⟨h,h1⟩
  have hp:∀ k,k<n+1→(gd (z.rows.getD k []) 0).int=(endD z k).int∧(gd (z.rows.getD k []) 0).int<(gd (z.rows.getD k []) 1).int∧inB (gd (z.rows.getD k []) 2).int 0 3=true:=fun k hk=>by
   have:=h k hk
   simp only [partAt,leI,Bool.and_eq_true,beq_iff_eq,Bool.not_eq_true',decide_eq_false_iff_not] at this
   exact ⟨this.1,by omega,this.2.2⟩
  have hlo:∀ k,k<n+1→0≤(gd (z.rows.getD k []) 0).int:=by
   intro k
   induction k with
   | zero=>intro hk; have h0:=(hp 0 hk).1; simp only [endD,int_i] at h0; rw [h0]; exact Int.le_refl 0
   | succ k ih =>
    intro hk
    have a:=hp k (by omega); have b:=hp (k+1) hk; have c:=ih (by omega)
    simp only [endD] at b
    omega
  have hhi:∀ m k,k+m=n→(gd (z.rows.getD k []) 1).int≤1000:=by
   intro m
   induction m with
   | zero =>
    intro k hk
    have hkn:k=n:=by omega
    subst hkn
    omega
   | succ m ih =>
    intro k hk
    have a:=ih (k+1) (by omega)
    have b:=hp (k+1) (by omega)
    simp only [endD] at b
    omega
  refine ⟨by have h0:=(hp 0 (by omega)).1; simp only [endD,int_i] at h0; exact h0,h1,fun k hk=>?_⟩
  have a:=hp k hk
  have b:=hlo k hk
  have c:=hhi (n - k) k (by omega)
  cases k with
  | zero =>
   simp only [partAtS,leI,ltI,Bool.and_eq_true,Bool.not_eq_true',decide_eq_false_iff_not]
   exact ⟨by omega,by omega,by omega,a.2.2⟩
  | succ k =>
   simp only [endD] at a
   simp only [partAtS,leI,ltI,Bool.and_eq_true,Bool.not_eq_true',decide_eq_false_iff_not,beq_iff_eq]
   exact ⟨by omega,by omega,by omega,a.2.2,by omega⟩
 ·rintro ⟨h0,h1,h⟩
  refine ⟨fun k hk=>?_,h1⟩
  have a:=h k hk
  cases k with
  | zero =>
   simp only [partAtS,leI,ltI,Bool.and_eq_true,Bool.not_eq_true',decide_eq_false_iff_not] at a
   simp only [partAt,leI,Bool.and_eq_true,beq_iff_eq,Bool.not_eq_true',decide_eq_false_iff_not,endD,int_i]
   exact ⟨h0,a.1,a.2.2.2⟩
  | succ k =>
   simp only [partAtS,leI,ltI,Bool.and_eq_true,Bool.not_eq_true',decide_eq_false_iff_not,beq_iff_eq] at a
   simp only [partAt,leI,Bool.and_eq_true,beq_iff_eq,Bool.not_eq_true',decide_eq_false_iff_not,endD]
   exact ⟨a.2.2.2.2.symm,a.1,a.2.2.2.1⟩
def s_PartsOkE:Ent:=(126,e1 (sd (.sl 97)) fun p=>(⟨rb,[.b (partsOk (gd p 0))]⟩,true))
theorem s_PartsOk_ok:EntOk Tryz.prog s_PartsOkE:=e1_ok fun p h=>evFn_sound (N:=(gd p 0).rows.length+1) (ks:=s_PartsOkK) (key:=bo) s_PartsOkT_ok (enters Tryz.func126) Tryz.func126 fun hw=>by
 rw [s_PartsOk_ev]
 have hl:=wt_sl (hw ⟨sd (.sl 97),p⟩ (by simp))
 unfold partsOk
 cases hb:inB ((gd p 0).rows.length:Int) 1 16
 ·rw [Bool.false_and,Bool.and_false]; rfl
 ·have hb':=hb
  simp only [inB,Bool.and_eq_true,decide_eq_true_eq] at hb'
  obtain ⟨n,hn⟩:∃ n,(gd p 0).rows.length=n+1:=⟨(gd p 0).rows.length - 1,by omega⟩
  rw [Bool.true_and,parts_same _ n hn]
  have hw1:w64 (((gd p 0).rows.length:Int) - 1)=(n:Int):=by rw [hn]; exact w64_pred (by omega)
  rw [hw1,nd_ix (show n<(gd p 0).rows.length from by omega),Int.toNat_natCast,show inRange 0 (gd p 0).rows.length=true from inRange_nat (k:=0) (by omega),nd_true,bne_not,bne_not]
  cases (gd ((gd p 0).rows.getD 0 []) 0).int==0
  ·rfl
  cases (gd ((gd p 0).rows.getD n []) 1).int==1000
  ·rfl
  have e:=for_loop (L:=s_PartsOkL0 ((gd p 0).rows.length+1) p) (fun k => [gd p 0,.i 0,.i ((gd p 0).rows.length:Int),.b false,.i (k:Int)]) (gd p 0).rows.length (partAtS (gd p 0)) [.b false] 0 (fun k hk=>?_) ?_ (N:=(gd p 0).rows.length+1) (by omega)
  ·simp only [Int.natCast_zero] at e
   simp only [Bool.not_true,Bool.not_false,cond_false,cond_true,e,Bool.true_and]
   cases (List.range (gd p 0).rows.length).all (partAtS (gd p 0)) <;> rfl
  ·cases k with
   | zero =>
    show s_PartsOkL0 _ p [_,_,_,_,.i ((0:Nat):Int)]=_
    rw [s_PartsOkR0]
    simp only [int_i,c_lt hk,nd_ix hk,w64_succ hk hl,Int.toNat_natCast,bne_not,ltI_00,partAtS]
    cases leI (gd ((gd p 0).rows.getD 0 []) 1).int (gd ((gd p 0).rows.getD 0 []) 0).int <;> cases ltI (gd ((gd p 0).rows.getD 0 []) 0).int 0 <;> cases ltI 1000 (gd ((gd p 0).rows.getD 0 []) 1).int <;> cases inB (gd ((gd p 0).rows.getD 0 []) 2).int 0 3 <;> rfl
   | succ k =>
    show s_PartsOkL0 _ p [_,_,_,_,.i ((k+1:Nat):Int)]=_
    rw [s_PartsOkR0]
    simp only [int_i,c_lt hk,nd_ix hk,w64_succ hk hl,Int.toNat_natCast,bne_not,ltI_0s,w64_pred (show k+1≤9223372036854775807 from by omega),nd_ix (Nat.lt_of_succ_lt hk),partAtS]
    cases leI (gd ((gd p 0).rows.getD (k+1) []) 1).int (gd ((gd p 0).rows.getD (k+1) []) 0).int <;> cases ltI (gd ((gd p 0).rows.getD (k+1) []) 0).int 0 <;> cases ltI 1000 (gd ((gd p 0).rows.getD (k+1) []) 1).int <;> cases inB (gd ((gd p 0).rows.getD (k+1) []) 2).int 0 3 <;> cases (gd ((gd p 0).rows.getD k []) 1).int==(gd ((gd p 0).rows.getD (k+1) []) 0).int <;> rfl
  ·show s_PartsOkL0 _ p [_,_,.i ((gd p 0).rows.length:Int),_,.i ((gd p 0).rows.length:Int)]=_
   rw [s_PartsOkR0]
   simp only [int_i,c_nlt]
abbrev i_LocksOkT:FuncId→List T→Option (T × Bool):=find [i_isTxE,i_LkeysE,i_RangeOkE,i_isModeE,cofLOE]
theorem i_LocksOkT_ok:CallOk Tryz.prog i_LocksOkT:=find_ok (fC ⟨i_isTx_ok,fC ⟨i_Lkeys_ok,fC ⟨i_RangeOk_ok,fC ⟨i_isMode_ok,fC ⟨cofLO_ok,fN⟩⟩⟩⟩⟩)
abbrev i_LocksOkK:List Nat:= [0,2,3,4,5,6,7,8,34]
noncomputable def i_LocksOkL0 (N:Nat) (p:List D):List D→Out:=loopOf Tryz.prog i_LocksOkT N i_LocksOkK Tryz.f163 rb [⟨sd (.sl 138),p⟩] 0
theorem i_LocksOkR0 (N:Nat) (p:List D) (x0 x1 x2 x3 x4:D):(i_LocksOkL0 N p) [x0,x1,x2,x3,x4] =
 bif ltI x4.int x3.int then nd (inRange x4.int x2.rows.length) (bif !(inB (gd (x2.rows.getD x4.int.toNat []) 0).int 1 60) then ob false
 else bif !(rangeOk [(gd (x2.rows.getD x4.int.toNat []) 1),(gd (x2.rows.getD x4.int.toNat []) 2)]) then ob false
 else bif !(i_isModeF [(gd (x2.rows.getD x4.int.toNat []) 3)]) then ob false
 else nd (leI 0 0&&leI 0 x4.int&&leI x4.int (x0.rows.length:Int)) (bif anyS (fun r=>ixfLOC (.l [[.l [sub (x2.rows.getD x4.int.toNat []) 0 4]]]) (sub r 0 4)) (.l (x0.rows.take x4.int.toNat)) then ob false
 else nx [x0,x1,x2,x3,.i (w64 (x4.int+1))]))
 else ex 0 [x0,x1,x2,x3,x4]:=by kernel_rfl
theorem i_LocksOk_ev (N:Nat) (p:List D):evFn Tryz.prog i_LocksOkT N i_LocksOkK Tryz.f163 rb [⟨sd (.sl 138),p⟩]=some (bo,
 (let o0:=iter (i_LocksOkL0 N p) N [gd p 0,.i 0,gd p 0,.i ((gd p 0).rows.length:Int),.i 0]
  nd o0.isSome (bif o0.code==1 then some (1,o0.pay)
  else nd (o0.code==2) (ob (leI ((gd o0.pay 0).rows.length:Int) 40))))):=by kernel_rfl
def lockAt (z:D) (k:Nat):Bool:=inB (gd (z.rows.getD k []) 0).int 1 60&&(rangeOk [gd (z.rows.getD k []) 1,gd (z.rows.getD k []) 2]&&(i_isModeF [gd (z.rows.getD k []) 3] && !(List.range k).any fun j=>i_clashF (z.rows.getD k []) (z.rows.getD j [])))
def locksOk (z:D):Bool:=(List.range z.rows.length).all (lockAt z)&&leI (z.rows.length:Int) 40
def i_LocksOkE:Ent:=(163,e1 (sd (.sl 138)) fun p=>(⟨rb,[.b (locksOk (gd p 0))]⟩,true))
theorem i_LocksOk_ok:EntOk Tryz.prog i_LocksOkE:=e1_ok fun p h=>evFn_sound (N:=(gd p 0).rows.length+1) (ks:=i_LocksOkK) (key:=bo) i_LocksOkT_ok (enters Tryz.func163) Tryz.func163 fun hw=>by
 rw [i_LocksOk_ev]
 have hl:=wt_sl (hw ⟨sd (.sl 138),p⟩ (by simp))
 have e:=for_loop (L:=i_LocksOkL0 ((gd p 0).rows.length+1) p) (fun k => [gd p 0,.i 0,gd p 0,.i ((gd p 0).rows.length:Int),.i (k:Int)]) (gd p 0).rows.length (lockAt (gd p 0)) [.b false] 0 (fun k hk=>?_) ?_ (N:=(gd p 0).rows.length+1) (by omega)
 ·simp only [Int.natCast_zero] at e
  rw [e]
  unfold locksOk
  cases (List.range (gd p 0).rows.length).all (lockAt (gd p 0)) <;> rfl
 ·show i_LocksOkL0 _ p [_,_,_,_,.i (k:Int)]=_
  rw [i_LocksOkR0]
  simp only [int_i,c_lt hk,nd_ix hk,w64_succ hk hl,Int.toNat_natCast,nd_take (Nat.le_of_lt hk),anyS_take (Nat.le_of_lt hk),lockAt]
  rw [show ((List.range k).any fun j=>ixfLOC (.l [[.l [sub ((gd p 0).rows.getD k []) 0 4]]]) (sub ((gd p 0).rows.getD j []) 0 4))=(List.range k).any fun j=>i_clashF ((gd p 0).rows.getD k []) ((gd p 0).rows.getD j []) from rfl]
  cases inB (gd ((gd p 0).rows.getD k []) 0).int 1 60 <;> cases rangeOk [gd ((gd p 0).rows.getD k []) 1,gd ((gd p 0).rows.getD k []) 2] <;> cases i_isModeF [gd ((gd p 0).rows.getD k []) 3] <;> cases (List.range k).any fun j=>i_clashF ((gd p 0).rows.getD k []) ((gd p 0).rows.getD j []) <;> rfl
 ·show i_LocksOkL0 _ p [_,_,_,.i ((gd p 0).rows.length:Int),.i ((gd p 0).rows.length:Int)]=_
  rw [i_LocksOkR0]
  simp only [int_i,c_nlt]
abbrev s_LocksOkT:FuncId→List T→Option (T × Bool):=find [s_l12TxE,s_l12RangeE,s_RangeOkE,s_l12ModeE,s_l12ClashE]
theorem s_LocksOkT_ok:CallOk Tryz.prog s_LocksOkT:=find_ok (fC ⟨s_l12Tx_ok,fC ⟨s_l12Range_ok,fC ⟨s_RangeOk_ok,fC ⟨s_l12Mode_ok,fC ⟨s_l12Clash_ok,fN⟩⟩⟩⟩⟩)
abbrev s_LocksOkK:List Nat:= [0,2,3,4,7,11,38,41,52]
noncomputable def s_LocksOkL0 (N:Nat) (p:List D):List D→Out:=loopOf Tryz.prog s_LocksOkT N s_LocksOkK Tryz.f134 rb [⟨sd (.sl 138),p⟩] 0
noncomputable def s_LocksOkL2 (N:Nat) (p:List D):List D→Out:=loopOf Tryz.prog s_LocksOkT N s_LocksOkK Tryz.f134 rb [⟨sd (.sl 138),p⟩] 2
theorem s_LocksOkR0 (N:Nat) (p:List D) (x0 x1 x2 x3:D):(s_LocksOkL0 N p) [x0,x1,x2,x3] =
 bif ltI x3.int (x0.rows.length:Int) then nd (inRange x3.int x0.rows.length) (bif !(inB (gd (x0.rows.getD x3.int.toNat []) 0).int 1 60) then ob false
 else nd (inRange x3.int x0.rows.length) (bif !(rangeOk [(gd (x0.rows.getD x3.int.toNat []) 1),(gd (x0.rows.getD x3.int.toNat []) 2)]) then ob false
 else nd (inRange x3.int x0.rows.length) (bif !(s_l12ModeF [(gd (x0.rows.getD x3.int.toNat []) 3)]) then ob false
 else (let o2:=iter (s_LocksOkL2 N p) N [x0,x1,x2,x3,.b (ltI x3.int (x0.rows.length:Int)),.b (!(s_l12ModeF [(gd (x0.rows.getD x3.int.toNat []) 3)])),.i 0]
  nd o2.isSome (bif o2.code==1 then some (1,o2.pay)
  else nd (o2.code==4) (nx [gd o2.pay 0,gd o2.pay 1,gd o2.pay 2,.i (w64 ((gd o2.pay 3).int+1))]))))))
 else ex 0 [x0,x1,x2,x3]:=by kernel_rfl
theorem s_LocksOkR2 (N:Nat) (p:List D) (x0 x1 x2 x3 x4 x5 x6:D):(s_LocksOkL2 N p) [x0,x1,x2,x3,x4,x5,x6] =
 bif ltI x6.int x3.int then nd (inRange x3.int x0.rows.length) (nd (inRange x6.int x0.rows.length) (bif clashS (sub (x0.rows.getD x3.int.toNat []) 0 4) (sub (x0.rows.getD x6.int.toNat []) 0 4) then ob false
 else nx [x0,x1,x2,x3,x4,x5,.i (w64 (x6.int+1))]))
 else ex 2 [x0,x1,x2,x3,x4,x5,x6]:=by kernel_rfl
theorem s_LocksOk_ev (N:Nat) (p:List D):evFn Tryz.prog s_LocksOkT N s_LocksOkK Tryz.f134 rb [⟨sd (.sl 138),p⟩]=some (bo,
 bif ltI 40 ((gd p 0).rows.length:Int) then ob false
 else (let o0:=iter (s_LocksOkL0 N p) N [gd p 0,.i 0,.b (ltI 40 ((gd p 0).rows.length:Int)),.i 0]
  nd o0.isSome (bif o0.code==1 then some (1,o0.pay)
  else nd (o0.code==2) (ob true)))):=by kernel_rfl
def lockAtS (z:D) (k:Nat):Bool:=inB (gd (z.rows.getD k []) 0).int 1 60&&(rangeOk [gd (z.rows.getD k []) 1,gd (z.rows.getD k []) 2]&&(i_isModeF [gd (z.rows.getD k []) 3]&&(List.range k).all fun j => !clashS (z.rows.getD k []) (z.rows.getD j [])))
theorem locks_same (z:D) (n:Nat):(List.range n).all (lockAtS z)=(List.range n).all (lockAt z):=by
 rw [Bool.eq_iff_iff]
 simp only [List.all_eq_true,List.mem_range]
 have hr:∀ {k},(lockAtS z k=true∨lockAt z k=true)→rangeOk [gd (z.rows.getD k []) 1,gd (z.rows.getD k []) 2]=true:=fun h=>by
  rcases h with h | h
  ·simp only [lockAtS,Bool.and_eq_true] at h; exact h.2.1
  ·simp only [lockAt,Bool.and_eq_true] at h; exact h.2.1
 constructor
 ·intro h k hk
  have a:=h k hk
  have ra:=hr (.inl a)
  simp only [lockAtS,Bool.and_eq_true,List.all_eq_true,List.mem_range,Bool.not_eq_true'] at a
  simp only [lockAt,Bool.and_eq_true,Bool.not_eq_true',List.any_eq_false,List.mem_range,Bool.not_eq_true]
  refine ⟨a.1,a.2.1,a.2.2.1,fun j hj=>?_⟩
  rw [← clashS_of ra (hr (.inl (h j (by omega))))]
  exact a.2.2.2 j hj
 ·intro h k hk
  have a:=h k hk
  have ra:=hr (.inr a)
  simp only [lockAt,Bool.and_eq_true,Bool.not_eq_true',List.any_eq_false,List.mem_range,Bool.not_eq_true] at a
  simp only [lockAtS,Bool.and_eq_true,List.all_eq_true,List.mem_range,Bool.not_eq_true']
  refine ⟨a.1,a.2.1,a.2.2.1,fun j hj=>?_⟩
  rw [clashS_of ra (hr (.inr (h j (by omega))))]
  exact a.2.2.2 j hj
def s_LocksOkE:Ent:=(134,e1 (sd (.sl 138)) fun p=>(⟨rb,[.b (locksOk (gd p 0))]⟩,true))
theorem s_LocksOk_ok:EntOk Tryz.prog s_LocksOkE:=e1_ok fun p h=>evFn_sound (N:=(gd p 0).rows.length+1) (ks:=s_LocksOkK) (key:=bo) s_LocksOkT_ok (enters Tryz.func134) Tryz.func134 fun hw=>by
 rw [s_LocksOk_ev]
 have hl:=wt_sl (hw ⟨sd (.sl 138),p⟩ (by simp))
 unfold locksOk
 rw [← locks_same]
 by_cases hb:(gd p 0).rows.length≤40
 ·rw [ltI_f (show ((gd p 0).rows.length:Int)≤40 from by omega),leI_t (show ((gd p 0).rows.length:Int)≤40 from by omega),cond_false]
  have e:=for_loop (L:=s_LocksOkL0 ((gd p 0).rows.length+1) p) (fun k => [gd p 0,.i 0,.b false,.i (k:Int)]) (gd p 0).rows.length (lockAtS (gd p 0)) [.b false] 0 (fun k hk=>?_) ?_ (N:=(gd p 0).rows.length+1) (by omega)
  ·simp only [Int.natCast_zero] at e
   rw [e]
   cases (List.range (gd p 0).rows.length).all (lockAtS (gd p 0)) <;> rfl
  ·show s_LocksOkL0 _ p [_,_,_,.i (k:Int)]=_
   rw [s_LocksOkR0]
   simp only [int_i,ltI_nat hk,cond_true,nd_ix hk,Int.toNat_natCast,lockAtS,show s_l12ModeF [gd ((gd p 0).rows.getD k []) 3]=i_isModeF [gd ((gd p 0).rows.getD k []) 3] from rfl]
   cases inB (gd ((gd p 0).rows.getD k []) 0).int 1 60
   ·rfl
   cases rangeOk [gd ((gd p 0).rows.getD k []) 1,gd ((gd p 0).rows.getD k []) 2]
   ·rfl
   cases i_isModeF [gd ((gd p 0).rows.getD k []) 3]
   ·rfl
   have e2:=for_loop (L:=s_LocksOkL2 ((gd p 0).rows.length+1) p) (fun j => [gd p 0,.i 0,.b false,.i (k:Int),.b true,.b false,.i (j:Int)]) k (fun j => !clashS ((gd p 0).rows.getD k []) ((gd p 0).rows.getD j [])) [.b false] 2 (fun j hj=>?_) ?_ (N:=(gd p 0).rows.length+1) (by omega)
   ·simp only [Int.natCast_zero] at e2
    simp only [Bool.not_true,cond_false,e2,Bool.true_and]
    cases (List.range k).all fun j => !clashS ((gd p 0).rows.getD k []) ((gd p 0).rows.getD j [])
    ·rfl
    ·simp only [nd,cond_true,cond_false,Option.isSome_some,Out.code,Out.pay,Option.getD_some,gd_cons_zero,gd_cons_succ,Nat.reduceBEq,Nat.reduceAdd,int_i,bool_b,str_s,rows_l,Bool.not_true,Bool.not_false,beq_self_eq_true,w64_succ hk hl]
   ·show s_LocksOkL2 _ p [_,_,_,.i (k:Int),_,_,.i (j:Int)]=_
    rw [s_LocksOkR2]
    simp only [int_i,c_lt hj,nd_ix hk,nd_ix (Nat.lt_trans hj hk),w64_succ hj (show k≤9223372036854775807 from by omega),Int.toNat_natCast]
    rw [show clashS (sub ((gd p 0).rows.getD k []) 0 4) (sub ((gd p 0).rows.getD j []) 0 4)=clashS ((gd p 0).rows.getD k []) ((gd p 0).rows.getD j []) from rfl]
    cases clashS ((gd p 0).rows.getD k []) ((gd p 0).rows.getD j []) <;> rfl
   ·show s_LocksOkL2 _ p [_,_,_,.i (k:Int),_,_,.i (k:Int)]=_
    rw [s_LocksOkR2]
    simp only [int_i,c_nlt]
  ·show s_LocksOkL0 _ p [_,_,_,.i ((gd p 0).rows.length:Int)]=_
   rw [s_LocksOkR0]
   simp only [int_i,c_nlt]
 ·rw [ltI_t (show (40:Int)<((gd p 0).rows.length:Int) from by omega),leI_f (show (40:Int)<((gd p 0).rows.length:Int) from by omega),Bool.and_false]
  rfl
abbrev i_haveAllT:FuncId→List T→Option (T × Bool):=find []
theorem i_haveAllT_ok:CallOk Tryz.prog i_haveAllT:=find_ok (fN)
abbrev i_haveAllK:List Nat:= [0,1,3,4,5,7,10,11,12,13,25]
noncomputable def i_haveAllL0 (N:Nat) (p q:List D):List D→Out:=loopOf Tryz.prog i_haveAllT N i_haveAllK Tryz.f88 rb [⟨sd (.sl 122),p⟩,⟨ag rIRange,q⟩] 0
theorem i_haveAllR0 (N:Nat) (p q:List D) (x0 x1 x2 x3 x4 x5 x6 x7 x8 x9 x10:D):(i_haveAllL0 N p q) [x0,x1,x2,x3,x4,x5,x6,x7,x8,x9,x10] =
 bif ltI x8.int x7.int then nd (inRange x8.int x6.rows.length) (bif leI (gd (x6.rows.getD x8.int.toNat []) 0).int x5.int then bif ltI x5.int (gd (x6.rows.getD x8.int.toNat []) 1).int then nx [x0,x1,x2,x3,x4,gd (x6.rows.getD x8.int.toNat []) 1,x6,x7,.i (w64 (x8.int+1)),x9,x10]
 else nx [x0,x1,x2,x3,x4,x5,x6,x7,.i (w64 (x8.int+1)),x9,x10]
 else nx [x0,x1,x2,x3,x4,x5,x6,x7,.i (w64 (x8.int+1)),x9,x10])
 else ex 0 [x0,x1,x2,x3,x4,x5,x6,x7,x8,x9,x10]:=by kernel_rfl
theorem i_haveAll_ev (N:Nat) (p q:List D):evFn Tryz.prog i_haveAllT N i_haveAllK Tryz.f88 rb [⟨sd (.sl 122),p⟩,⟨ag rIRange,q⟩]=some (bo,
 (let o0:=iter (i_haveAllL0 N p q) N [gd p 0,gd q 0,gd q 1,.i 0,.i 0,gd q 0,gd p 0,.i ((gd p 0).rows.length:Int),.i 0,gd q 0,gd q 1]
  nd o0.isSome (nd (o0.code==2) (ob (leI (gd o0.pay 10).int (gd o0.pay 5).int))))):=by kernel_rfl
def haveD (z:D) (a:D):Nat→D
 | 0=>a
 | k+1=>bif leI (gd (z.rows.getD k []) 0).int (haveD z a k).int&&ltI (haveD z a k).int (gd (z.rows.getD k []) 1).int then gd (z.rows.getD k []) 1 else haveD z a k
def haveAll (z:D) (q:List D):Bool:=leI (gd q 1).int (haveD z (gd q 0) z.rows.length).int
theorem run_loop {L:List D→Out} (st:Nat→List D) (n:Nat) (j:Nat) (h1:∀ k,k<n→L (st k)=some (0,st (k+1))) (h2:L (st n)=some (j+2,st n)) {N:Nat} (hN:n<N) :
  iter L N (st 0)=some (j+2,st n):=by
 have e:=for_loop (L:=L) st n (fun _=>true) [] j (fun k hk=>h1 k hk) h2 hN
 rw [e,show (List.range n).all (fun _=>true)=true from by simp]; rfl
def i_haveAllE:Ent:=(88,e2 (sd (.sl 122)) (ag rIRange) fun p q=>(⟨rb,[.b (haveAll (gd p 0) q)]⟩,true))
theorem i_haveAll_ok:EntOk Tryz.prog i_haveAllE:=e2_ok fun p q h=>evFn_sound (N:=(gd p 0).rows.length+1) (ks:=i_haveAllK) (key:=bo) i_haveAllT_ok (enters Tryz.func88) Tryz.func88 fun hw=>by
 rw [i_haveAll_ev]
 have hl:=wt_sl (hw ⟨sd (.sl 122),p⟩ (by simp))
 have e:=run_loop (L:=i_haveAllL0 ((gd p 0).rows.length+1) p q) (fun k => [gd p 0,gd q 0,gd q 1,.i 0,.i 0,haveD (gd p 0) (gd q 0) k,gd p 0,.i ((gd p 0).rows.length:Int),.i (k:Int),gd q 0,gd q 1]) (gd p 0).rows.length 0 (fun k hk=>?_) ?_ (N:=(gd p 0).rows.length+1) (by omega)
 ·simp only [Int.natCast_zero] at e
  rw [show haveD (gd p 0) (gd q 0) 0=gd q 0 from rfl] at e
  rw [e]
  rfl
 ·show i_haveAllL0 _ p q [_,_,_,_,_,_,_,_,.i (k:Int),_,_]=_
  rw [i_haveAllR0]
  simp only [int_i,c_lt hk,nd_ix hk,w64_succ hk hl,Int.toNat_natCast,haveD]
  cases leI (gd ((gd p 0).rows.getD k []) 0).int (haveD (gd p 0) (gd q 0) k).int <;> cases ltI (haveD (gd p 0) (gd q 0) k).int (gd ((gd p 0).rows.getD k []) 1).int <;> rfl
 ·show i_haveAllL0 _ p q [_,_,_,_,_,_,_,.i ((gd p 0).rows.length:Int),.i ((gd p 0).rows.length:Int),_,_]=_
  rw [i_haveAllR0]
  simp only [int_i,c_nlt]
abbrev s_RangesHaveT:FuncId→List T→Option (T × Bool):=find [s_RangesOkE,s_RangeOkE]
theorem s_RangesHaveT_ok:CallOk Tryz.prog s_RangesHaveT:=find_ok (fC ⟨s_RangesOk_ok,fC ⟨s_RangeOk_ok,fN⟩⟩)
abbrev s_RangesHaveK:List Nat:= [0,1,3,4,5,6,14,20,38]
noncomputable def s_RangesHaveL0 (N:Nat) (p q:List D):List D→Out:=loopOf Tryz.prog s_RangesHaveT N s_RangesHaveK Tryz.f83 rb [⟨sd (.sl 122),p⟩,⟨ag rIRange,q⟩] 0
theorem s_RangesHaveR0 (N:Nat) (p q:List D) (x0 x1 x2 x3 x4 x5 x6 x7 x8 x9:D):(s_RangesHaveL0 N p q) [x0,x1,x2,x3,x4,x5,x6,x7,x8,x9] =
 bif ltI x7.int (x0.rows.length:Int) then nd (inRange x7.int x0.rows.length) (bif leI (gd (x0.rows.getD x7.int.toNat []) 0).int x6.int then nd (inRange x7.int x0.rows.length) (bif ltI x6.int (gd (x0.rows.getD x7.int.toNat []) 1).int then nd (inRange x7.int x0.rows.length) (nx [x0,x1,x2,x3,x4,x5,gd (x0.rows.getD x7.int.toNat []) 1,.i (w64 (x7.int+1)),x8,x9])
 else nx [x0,x1,x2,x3,x4,x5,x6,.i (w64 (x7.int+1)),x8,x9])
 else nx [x0,x1,x2,x3,x4,x5,x6,.i (w64 (x7.int+1)),x8,x9])
 else ex 0 [x0,x1,x2,x3,x4,x5,x6,x7,x8,x9]:=by kernel_rfl
theorem s_RangesHave_ev (N:Nat) (p q:List D):evFn Tryz.prog s_RangesHaveT N s_RangesHaveK Tryz.f83 rb [⟨sd (.sl 122),p⟩,⟨ag rIRange,q⟩]=some (bo,
 bif !(rangesOk (gd p 0)) then ob false
 else bif !(rangeOk (sub q 0 2)) then ob false
 else (let o0:=iter (s_RangesHaveL0 N p q) N [gd p 0,gd q 0,gd q 1,.i 0,.i 0,.b (!(rangeOk (sub q 0 2))),gd q 0,.i 0,gd q 0,gd q 1]
  nd o0.isSome (nd (o0.code==2) (ob (leI (gd o0.pay 9).int (gd o0.pay 6).int))))):=by kernel_rfl
def rangesHave (z:D) (q:List D):Bool:=rangesOk z&&(rangeOk q&&haveAll z q)
def s_RangesHaveE:Ent:=(83,e2 (sd (.sl 122)) (ag rIRange) fun p q=>(⟨rb,[.b (rangesHave (gd p 0) q)]⟩,true))
theorem s_RangesHave_ok:EntOk Tryz.prog s_RangesHaveE:=e2_ok fun p q h=>evFn_sound (N:=(gd p 0).rows.length+1) (ks:=s_RangesHaveK) (key:=bo) s_RangesHaveT_ok (enters Tryz.func83) Tryz.func83 fun hw=>by
 rw [s_RangesHave_ev]
 have hl:=wt_sl (hw ⟨sd (.sl 122),p⟩ (by simp))
 unfold rangesHave
 rw [show rangeOk (sub q 0 2)=rangeOk q from rfl]
 cases rangesOk (gd p 0)
 ·rfl
 cases rangeOk q
 ·rfl
 have e:=run_loop (L:=s_RangesHaveL0 ((gd p 0).rows.length+1) p q) (fun k => [gd p 0,gd q 0,gd q 1,.i 0,.i 0,.b false,haveD (gd p 0) (gd q 0) k,.i (k:Int),gd q 0,gd q 1]) (gd p 0).rows.length 0 (fun k hk=>?_) ?_ (N:=(gd p 0).rows.length+1) (by omega)
 ·simp only [Int.natCast_zero] at e
  rw [show haveD (gd p 0) (gd q 0) 0=gd q 0 from rfl] at e
  simp only [Bool.not_true,cond_false,e]
  rfl
 ·show s_RangesHaveL0 _ p q [_,_,_,_,_,_,_,.i (k:Int),_,_]=_
  rw [s_RangesHaveR0]
  simp only [int_i,c_lt hk,nd_ix hk,w64_succ hk hl,Int.toNat_natCast,haveD]
  cases leI (gd ((gd p 0).rows.getD k []) 0).int (haveD (gd p 0) (gd q 0) k).int <;> cases ltI (haveD (gd p 0) (gd q 0) k).int (gd ((gd p 0).rows.getD k []) 1).int <;> rfl
 ·show s_RangesHaveL0 _ p q [_,_,_,_,_,_,_,.i ((gd p 0).rows.length:Int),_,_]=_
  rw [s_RangesHaveR0]
  simp only [int_i,c_nlt]
end Go.Proofs.YtchceahcaaibcaaGreat
namespace Go.Proofs.YtchceahcaaibcaaGreat
set_option maxRecDepth 4096
abbrev i_cellsInT:FuncId→List T→Option (T × Bool):=find [i_StoreOkE,cofCIE]
theorem i_cellsInT_ok:CallOk Tryz.prog i_cellsInT:=find_ok (fC ⟨i_StoreOk_ok,fC ⟨cofCI_ok,fN⟩⟩)
abbrev i_cellsInK:List Nat:= [0,1,3,4]
theorem i_cellsIn_ev (N:Nat) (p q:List D):evFn Tryz.prog i_cellsInT N i_cellsInK Tryz.f254 rb [⟨sd (.sl 176),p⟩,⟨ag rIRange,q⟩]=some (bo,
 bif storeOk (gd p 0) then ob (!(anyS (fun r=>ixfCIC (.l [[.l [sub q 0 2]]]) (sub r 0 2)) (gd p 0)))
 else ob false):=by kernel_rfl
def cellsIn (z:D) (q:List D):Bool:=storeOk z&&(List.range z.rows.length).all fun k=>inB (gd (z.rows.getD k []) 0).int (gd q 0).int (w64 ((gd q 1).int - 1))
def i_cellsInE:Ent:=(254,e2 (sd (.sl 176)) (ag rIRange) fun p q=>(⟨rb,[.b (cellsIn (gd p 0) q)]⟩,true))
theorem i_cellsIn_ok:EntOk Tryz.prog i_cellsInE:=e2_ok fun p q h=>evFn_sound (N:=0) (ks:=i_cellsInK) (key:=bo) i_cellsInT_ok (enters Tryz.func254) Tryz.func254 fun hw=>by
 rw [i_cellsIn_ev]
 unfold cellsIn
 cases storeOk (gd p 0)
 ·rfl
 ·refine congrArg (fun x=>some (bo,ob x)) ?_
  show (!anyS (fun r => !inB (gd r 0).int (gd q 0).int (w64 ((gd q 1).int - 1))) (gd p 0))=_
  unfold anyS
  rw [← not_any,Bool.true_and]
  simp only [Bool.not_not]
abbrev i_moveOkT:FuncId→List T→Option (T × Bool):=find [i_fromE,i_MkeysE,i_RangeOkE,i_isGroupE,i_cellsInE]
theorem i_moveOkT_ok:CallOk Tryz.prog i_moveOkT:=find_ok (fC ⟨i_from_ok,fC ⟨i_Mkeys_ok,fC ⟨i_RangeOk_ok,fC ⟨i_isGroup_ok,fC ⟨i_cellsIn_ok,fN⟩⟩⟩⟩⟩)
abbrev i_moveOkK:List Nat:= [0,1,2,12,15]
theorem i_moveOk_ev (N:Nat) (p:List D):evFn Tryz.prog i_moveOkT N i_moveOkK Tryz.f156 rb [⟨ag rIMove,p⟩]=some (bo,
 bif !(inB (gd p 0).int 0 300000) then ob false
 else bif !(inB (gd p 1).int 0 4) then ob false
 else bif (gd p 1).int==0 then bif (gd p 2).int==0 then bif (gd p 3).int==0 then bif (gd p 4).int==0 then bif (gd p 5).int==0 then ob (((gd p 6).rows.length:Int)==0)
 else ob false
 else ob false
 else ob false
 else ob false
 else bif leI 1 (gd p 0).int then bif rangeOk [(gd p 2),(gd p 3)] then bif inB (gd p 4).int (0) (3) then bif inB (gd p 5).int (0) (3) then bif (gd p 4).int != (gd p 5).int then bif cellsIn (gd p 6) [(gd p 2),(gd p 3)] then bif (gd p 1).int==2 then ob true
 else ob (((gd p 6).rows.length:Int)==0)
 else ob false
 else ob false
 else ob false
 else ob false
 else ob false
 else ob false):=by kernel_rfl
def still (a b c d:Int) (n:Nat):Bool:=(a==0)&&((b==0)&&((c==0)&&((d==0)&&((n:Int)==0))))
def moveOk (p:List D):Bool:=inB (gd p 0).int 0 300000&&(inB (gd p 1).int 0 4&&(bif (gd p 1).int==0 then still (gd p 2).int (gd p 3).int (gd p 4).int (gd p 5).int (gd p 6).rows.length else
 leI 1 (gd p 0).int&&(rangeOk [gd p 2,gd p 3]&&(inB (gd p 4).int 0 3&&(inB (gd p 5).int 0 3&&(!((gd p 4).int==(gd p 5).int)&&(cellsIn (gd p 6) [gd p 2,gd p 3]&&(((gd p 1).int==2)||(((gd p 6).rows.length:Int)==0)))))))))
def i_moveOkE:Ent:=(156,e1 (ag rIMove) fun p=>(⟨rb,[.b (moveOk p)]⟩,true))
theorem i_moveOk_ok:EntOk Tryz.prog i_moveOkE:=e1_ok fun p h=>evFn_sound (N:=0) (ks:=i_moveOkK) (key:=bo) i_moveOkT_ok (enters Tryz.func156) Tryz.func156 fun hw=>by
 rw [i_moveOk_ev]
 unfold moveOk still
 rw [bne_not]
 cases inB (gd p 0).int 0 300000 <;> try rfl
 cases inB (gd p 1).int 0 4 <;> try rfl
 cases (gd p 1).int==0
 ·cases leI 1 (gd p 0).int <;> try rfl
  cases rangeOk [gd p 2,gd p 3] <;> try rfl
  cases inB (gd p 4).int 0 3 <;> try rfl
  cases inB (gd p 5).int 0 3 <;> try rfl
  cases (gd p 4).int==(gd p 5).int <;> try rfl
  cases cellsIn (gd p 6) [gd p 2,gd p 3] <;> try rfl
  cases (gd p 1).int==2 <;> rfl
 ·cases (gd p 2).int==0 <;> try rfl
  cases (gd p 3).int==0 <;> try rfl
  cases (gd p 4).int==0 <;> try rfl
  cases (gd p 5).int==0 <;> rfl
abbrev i_AtlasOkT:FuncId→List T→Option (T × Bool):=find [i_fromE,i_PartsOkE,i_moveOkE]
theorem i_AtlasOkT_ok:CallOk Tryz.prog i_AtlasOkT:=find_ok (fC ⟨i_from_ok,fC ⟨i_PartsOk_ok,fC ⟨i_moveOk_ok,fN⟩⟩⟩)
abbrev i_AtlasOkK:List Nat:= [0,1,2]
theorem i_AtlasOk_ev (N:Nat) (p:List D):evFn Tryz.prog i_AtlasOkT N i_AtlasOkK Tryz.f60 rb [⟨ag rIAtlas,p⟩]=some (bo,
 bif inB (gd p 0).int 0 1000000 then bif partsOk (gd p 1) then ob (moveOk (sub p 2 7))
 else ob false
 else ob false):=by kernel_rfl
def atlasOk (p:List D):Bool:=inB (gd p 0).int 0 1000000&&(partsOk (gd p 1)&&moveOk (sub p 2 7))
def i_AtlasOkE:Ent:=(60,e1 (ag rIAtlas) fun p=>(⟨rb,[.b (atlasOk p)]⟩,true))
theorem i_AtlasOk_ok:EntOk Tryz.prog i_AtlasOkE:=e1_ok fun p h=>evFn_sound (N:=0) (ks:=i_AtlasOkK) (key:=bo) i_AtlasOkT_ok (enters Tryz.func60) Tryz.func60 fun hw=>by
 rw [i_AtlasOk_ev]
 unfold atlasOk
 cases inB (gd p 0).int 0 1000000 <;> try rfl
 cases partsOk (gd p 1) <;> rfl
abbrev s_AtlasOkT:FuncId→List T→Option (T × Bool):=find [s_l1InE,s_PartsOkE,s_StoreOkE,s_RangeOkE,s_l15GroupE,s_l15InE]
theorem s_AtlasOkT_ok:CallOk Tryz.prog s_AtlasOkT:=find_ok (fC ⟨s_l1In_ok,fC ⟨s_PartsOk_ok,fC ⟨s_StoreOk_ok,fC ⟨s_RangeOk_ok,fC ⟨s_l15Group_ok,fC ⟨s_l15In_ok,fN⟩⟩⟩⟩⟩⟩)
abbrev s_AtlasOkK:List Nat:= [0,1,2,3,33,36,91]
theorem s_AtlasOk_ev (N:Nat) (p:List D):evFn Tryz.prog s_AtlasOkT N s_AtlasOkK Tryz.f46 rb [⟨ag rIAtlas,p⟩]=some (bo,
 bif !(inB (gd p 0).int 0 1000000) then ob false
 else bif !(partsOk (gd p 1)) then ob false
 else bif !(inB (gd p 2).int 0 300000) then ob false
 else bif !(inB (gd p 3).int 0 4) then ob false
 else bif !(storeOk (gd p 8)) then ob false
 else bif (gd p 3).int==0 then bif (gd p 4).int==0 then bif (gd p 5).int==0 then bif (gd p 6).int==0 then bif (gd p 7).int==0 then ob (((gd p 8).rows.length:Int)==0)
 else ob false
 else ob false
 else ob false
 else ob false
 else bif ltI (gd p 2).int 1 then ob false
 else bif !(rangeOk (sub p 4 2)) then ob false
 else bif !(inB (gd p 6).int 0 3) then ob false
 else bif !(inB (gd p 7).int 0 3) then ob false
 else bif (gd p 6).int==(gd p 7).int then ob false
 else bif cellsInS (gd p 8) (sub p 2 7) then bif (gd p 3).int==2 then ob true
 else ob (((gd p 8).rows.length:Int)==0)
 else ob false):=by kernel_rfl
theorem store_nil {z:D} (h:((z.rows.length:Int)==0)=true):storeOk z=true:=by
 have h0:z.rows.length=0:=by have:=eq_of_beq h; omega
 unfold storeOk
 rw [h0]; rfl
def s_AtlasOkE:Ent:=(46,e1 (ag rIAtlas) fun p=>(⟨rb,[.b (atlasOk p)]⟩,true))
theorem s_AtlasOk_ok:EntOk Tryz.prog s_AtlasOkE:=e1_ok fun p h=>evFn_sound (N:=0) (ks:=s_AtlasOkK) (key:=bo) s_AtlasOkT_ok (enters Tryz.func46) Tryz.func46 fun hw=>by
 rw [s_AtlasOk_ev]
 rw [show rangeOk (sub p 4 2)=rangeOk [gd p 4,gd p 5] from rfl]
 have hm:moveOk (sub p 2 7)=(inB (gd p 2).int 0 300000&&(inB (gd p 3).int 0 4&&(bif (gd p 3).int==0 then still (gd p 4).int (gd p 5).int (gd p 6).int (gd p 7).int (gd p 8).rows.length else leI 1 (gd p 2).int&&(rangeOk [gd p 4,gd p 5]&&(inB (gd p 6).int 0 3&&(inB (gd p 7).int 0 3&&(!((gd p 6).int==(gd p 7).int)&&((storeOk (gd p 8)&&cellsInS (gd p 8) (sub p 2 7))&&(((gd p 3).int==2)||(((gd p 8).rows.length:Int)==0)))))))))):=rfl
 unfold atlasOk
 rw [hm,show leI 1 (gd p 2).int = !ltI (gd p 2).int 1 from by unfold leI ltI; rw [← decide_not]; exact decide_eq_decide.2 (by omega)]
 unfold still
 cases inB (gd p 0).int 0 1000000 <;> try rfl
 cases partsOk (gd p 1) <;> try rfl
 cases inB (gd p 2).int 0 300000 <;> try rfl
 cases inB (gd p 3).int 0 4 <;> try rfl
 cases hs:storeOk (gd p 8)
 ·cases (gd p 3).int==0
  ·cases ltI (gd p 2).int 1 <;> cases rangeOk [gd p 4,gd p 5] <;> cases inB (gd p 6).int 0 3 <;> cases inB (gd p 7).int 0 3 <;> cases (gd p 6).int==(gd p 7).int <;> rfl
  ·cases hl:((gd p 8).rows.length:Int)==0
   ·cases (gd p 4).int==0 <;> cases (gd p 5).int==0 <;> cases (gd p 6).int==0 <;> cases (gd p 7).int==0 <;> rfl
   ·rw [store_nil hl] at hs; cases hs
 ·cases (gd p 3).int==0
  ·cases ltI (gd p 2).int 1 <;> try rfl
   cases rangeOk [gd p 4,gd p 5] <;> try rfl
   cases inB (gd p 6).int 0 3 <;> try rfl
   cases inB (gd p 7).int 0 3 <;> try rfl
   cases (gd p 6).int==(gd p 7).int <;> try rfl
   cases cellsInS (gd p 8) (sub p 2 7) <;> try rfl
   cases (gd p 3).int==2 <;> rfl
  ·cases (gd p 4).int==0 <;> try rfl
   cases (gd p 5).int==0 <;> try rfl
   cases (gd p 6).int==0 <;> try rfl
   cases (gd p 7).int==0 <;> rfl
abbrev i_eventRightT:FuncId→List T→Option (T × Bool):=find [i_fromE,i_isTxE,i_StoreOkE,i_RangeOkE]
theorem i_eventRightT_ok:CallOk Tryz.prog i_eventRightT:=find_ok (fC ⟨i_from_ok,fC ⟨i_isTx_ok,fC ⟨i_StoreOk_ok,fC ⟨i_RangeOk_ok,fN⟩⟩⟩⟩)
abbrev i_eventRightK:List Nat:= [0,1,2,3,4,30,33]
theorem i_eventRight_ev (N:Nat) (p q:List D):evFn Tryz.prog i_eventRightT N i_eventRightK Tryz.f74 rb [⟨ag rITown,p⟩,⟨ag rIEvent,q⟩]=some (bo,
 bif !(inB (gd q 0).int 1 3) then ob false
 else bif !(inB (gd q 1).int 0 (w64 (((gd p 12).rows.length:Int) - 1))) then ob false
 else bif !(inB (gd q 2).int 1 60) then ob false
 else bif !(storeOk (gd q 5)) then ob false
 else bif (gd q 0).int==2 then bif rangeOk (sub q 3 2) then ob (!(gd q 6).bool)
 else ob false
 else bif (gd q 3).int==0 then bif (gd q 4).int==0 then bif ((gd q 5).rows.length:Int)==0 then bif (gd q 0).int==3 then ob true
 else ob (!(gd q 6).bool)
 else ob false
 else ob false
 else ob false):=by kernel_rfl
def eventOk (e:List D) (n:Int):Bool:=inB (gd e 0).int 1 3&&(inB (gd e 1).int 0 (w64 (n - 1))&&(inB (gd e 2).int 1 60&&(storeOk (gd e 5)&&(bif (gd e 0).int==2 then rangeOk [gd e 3,gd e 4] && !(gd e 6).bool else
 ((gd e 3).int==0)&&(((gd e 4).int==0)&&((((gd e 5).rows.length:Int)==0)&&(((gd e 0).int==3) || !(gd e 6).bool)))))))
def i_eventRightE:Ent:=(74,e2 (ag rITown) (ag rIEvent) fun p q=>(⟨rb,[.b (eventOk q ((gd p 12).rows.length:Int))]⟩,true))
theorem i_eventRight_ok:EntOk Tryz.prog i_eventRightE:=e2_ok fun p q h=>evFn_sound (N:=0) (ks:=i_eventRightK) (key:=bo) i_eventRightT_ok (enters Tryz.func74) Tryz.func74 fun hw=>by
 rw [i_eventRight_ev]
 rw [show rangeOk (sub q 3 2)=rangeOk [gd q 3,gd q 4] from rfl]
 unfold eventOk
 cases inB (gd q 0).int 1 3 <;> try rfl
 cases inB (gd q 1).int 0 (w64 (((gd p 12).rows.length:Int) - 1)) <;> try rfl
 cases inB (gd q 2).int 1 60 <;> try rfl
 cases storeOk (gd q 5) <;> try rfl
 cases (gd q 0).int==2
 ·cases (gd q 3).int==0 <;> try rfl
  cases (gd q 4).int==0 <;> try rfl
  cases ((gd q 5).rows.length:Int)==0 <;> try rfl
  cases (gd q 0).int==3 <;> rfl
 ·cases rangeOk [gd q 3,gd q 4] <;> rfl
abbrev s_l16EventOkT:FuncId→List T→Option (T × Bool):=find [s_l1InE,s_l12TxE,s_StoreOkE,s_l16RangeOkE]
theorem s_l16EventOkT_ok:CallOk Tryz.prog s_l16EventOkT:=find_ok (fC ⟨s_l1In_ok,fC ⟨s_l12Tx_ok,fC ⟨s_StoreOk_ok,fC ⟨s_l16RangeOk_ok,fN⟩⟩⟩⟩)
abbrev s_l16EventOkK:List Nat:= [0,1,2,4,28,31]
theorem s_l16EventOk_ev (N:Nat) (p q:List D):evFn Tryz.prog s_l16EventOkT N s_l16EventOkK Tryz.f53 rb [⟨ag rIEvent,p⟩,⟨ri,q⟩]=some (bo,
 bif !(inB (gd p 0).int 1 3) then ob false
 else bif !(inB (gd p 1).int 0 (w64 ((gd q 0).int - 1))) then ob false
 else bif !(inB (gd p 2).int 1 60) then ob false
 else bif !(storeOk (gd p 5)) then ob false
 else bif (gd p 0).int==2 then bif rangeOk [(gd p 3),(gd p 4)] then ob (!(gd p 6).bool)
 else ob false
 else bif (gd p 3).int==0 then bif (gd p 4).int==0 then bif ((gd p 5).rows.length:Int)==0 then bif (gd p 0).int==3 then ob true
 else ob (!(gd p 6).bool)
 else ob false
 else ob false
 else ob false):=by kernel_rfl
def s_l16EventOkE:Ent:=(53,e2 (ag rIEvent) ri fun p q=>(⟨rb,[.b (eventOk p (gd q 0).int)]⟩,true))
theorem s_l16EventOk_ok:EntOk Tryz.prog s_l16EventOkE:=e2_ok fun p q h=>evFn_sound (N:=0) (ks:=s_l16EventOkK) (key:=bo) s_l16EventOkT_ok (enters Tryz.func53) Tryz.func53 fun hw=>by
 rw [s_l16EventOk_ev]
 unfold eventOk
 cases inB (gd p 0).int 1 3 <;> try rfl
 cases inB (gd p 1).int 0 (w64 ((gd q 0).int - 1)) <;> try rfl
 cases inB (gd p 2).int 1 60 <;> try rfl
 cases storeOk (gd p 5) <;> try rfl
 cases (gd p 0).int==2
 ·cases (gd p 3).int==0 <;> try rfl
  cases (gd p 4).int==0 <;> try rfl
  cases ((gd p 5).rows.length:Int)==0 <;> try rfl
  cases (gd p 0).int==3 <;> rfl
 ·cases rangeOk [gd p 3,gd p 4] <;> rfl
abbrev i_ClientOkT:FuncId→List T→Option (T × Bool):=find [i_fromE,i_isWholeE,i_RangeOkE,i_isGroupE,i_isTxE,i_WritesOkE,i_PartsOkE,cofCOE]
theorem i_ClientOkT_ok:CallOk Tryz.prog i_ClientOkT:=find_ok (fC ⟨i_from_ok,fC ⟨i_isWhole_ok,fC ⟨i_RangeOk_ok,fC ⟨i_isGroup_ok,fC ⟨i_isTx_ok,fC ⟨i_WritesOk_ok,fC ⟨i_PartsOk_ok,fC ⟨cofCO_ok,fN⟩⟩⟩⟩⟩⟩⟩⟩)
abbrev i_ClientOkK:List Nat:= [0,1,2,3,23,44,67]
theorem i_ClientOk_ev (N:Nat) (p:List D):evFn Tryz.prog i_ClientOkT N i_ClientOkK Tryz.f180 rb [⟨ag rIClient,p⟩]=some (bo,
 bif !(inB (gd p 0).int 0 5) then ob false
 else bif !(inB (gd p 2).int (0) (1000000000)) then ob false
 else bif (gd p 2).int==0 then bif (gd p 0).int != 0 then ob false
 else bif (gd p 5).int==0 then bif (gd p 6).int==0 then bif (gd p 0).int==0 then bif (gd p 7).int==0 then bif (gd p 1).int==0 then ob ((w64 ((w64 (((gd p 3).rows.length:Int)+((gd p 4).rows.length:Int)))+((gd p 8).rows.length:Int)))==0)
 else ob false
 else ob false
 else bif (gd p 0).int==1 then bif (gd p 7).int==0 then bif (gd p 1).int==0 then ob ((w64 ((w64 (((gd p 3).rows.length:Int)+((gd p 4).rows.length:Int)))+((gd p 8).rows.length:Int)))==0)
 else ob false
 else ob false
 else bif (gd p 0).int==3 then bif rangeOk (sub p 5 2) then bif inB (gd p 7).int (0) (3) then bif inB (gd p 1).int 1 60 then bif writesOk (gd p 3) then bif leI ((gd p 4).rows.length:Int) 16 then bif partsOk (gd p 8) then ob (!(anyS (fun r=>ixfCOC (.l [[]]) (sub r 0 3)) (gd p 4)))
 else ob false
 else ob false
 else ob false
 else ob false
 else ob false
 else ob false
 else bif (gd p 7).int==0 then bif inB (gd p 1).int 1 60 then bif writesOk (gd p 3) then bif leI ((gd p 4).rows.length:Int) 16 then bif partsOk (gd p 8) then ob (!(anyS (fun r=>ixfCOC (.l [[]]) (sub r 0 3)) (gd p 4)))
 else ob false
 else ob false
 else ob false
 else ob false
 else ob false
 else bif (gd p 0).int==0 then ob false
 else bif (gd p 0).int==1 then ob false
 else bif (gd p 0).int==3 then bif rangeOk (sub p 5 2) then bif inB (gd p 7).int (0) (3) then bif inB (gd p 1).int 1 60 then bif writesOk (gd p 3) then bif leI ((gd p 4).rows.length:Int) 16 then bif partsOk (gd p 8) then ob (!(anyS (fun r=>ixfCOC (.l [[]]) (sub r 0 3)) (gd p 4)))
 else ob false
 else ob false
 else ob false
 else ob false
 else ob false
 else ob false
 else ob false
 else bif (gd p 0).int==0 then ob false
 else bif (gd p 0).int==1 then ob false
 else bif (gd p 0).int==3 then bif rangeOk (sub p 5 2) then bif inB (gd p 7).int (0) (3) then bif inB (gd p 1).int 1 60 then bif writesOk (gd p 3) then bif leI ((gd p 4).rows.length:Int) 16 then bif partsOk (gd p 8) then ob (!(anyS (fun r=>ixfCOC (.l [[]]) (sub r 0 3)) (gd p 4)))
 else ob false
 else ob false
 else ob false
 else ob false
 else ob false
 else ob false
 else ob false
 else bif (gd p 5).int==0 then bif (gd p 6).int==0 then bif (gd p 0).int==0 then bif (gd p 7).int==0 then bif (gd p 1).int==0 then ob ((w64 ((w64 (((gd p 3).rows.length:Int)+((gd p 4).rows.length:Int)))+((gd p 8).rows.length:Int)))==0)
 else ob false
 else ob false
 else bif (gd p 0).int==1 then bif (gd p 7).int==0 then bif (gd p 1).int==0 then ob ((w64 ((w64 (((gd p 3).rows.length:Int)+((gd p 4).rows.length:Int)))+((gd p 8).rows.length:Int)))==0)
 else ob false
 else ob false
 else bif (gd p 0).int==3 then bif rangeOk (sub p 5 2) then bif inB (gd p 7).int (0) (3) then bif inB (gd p 1).int 1 60 then bif writesOk (gd p 3) then bif leI ((gd p 4).rows.length:Int) 16 then bif partsOk (gd p 8) then ob (!(anyS (fun r=>ixfCOC (.l [[]]) (sub r 0 3)) (gd p 4)))
 else ob false
 else ob false
 else ob false
 else ob false
 else ob false
 else ob false
 else bif (gd p 7).int==0 then bif inB (gd p 1).int 1 60 then bif writesOk (gd p 3) then bif leI ((gd p 4).rows.length:Int) 16 then bif partsOk (gd p 8) then ob (!(anyS (fun r=>ixfCOC (.l [[]]) (sub r 0 3)) (gd p 4)))
 else ob false
 else ob false
 else ob false
 else ob false
 else ob false
 else bif (gd p 0).int==0 then ob false
 else bif (gd p 0).int==1 then ob false
 else bif (gd p 0).int==3 then bif rangeOk (sub p 5 2) then bif inB (gd p 7).int (0) (3) then bif inB (gd p 1).int 1 60 then bif writesOk (gd p 3) then bif leI ((gd p 4).rows.length:Int) 16 then bif partsOk (gd p 8) then ob (!(anyS (fun r=>ixfCOC (.l [[]]) (sub r 0 3)) (gd p 4)))
 else ob false
 else ob false
 else ob false
 else ob false
 else ob false
 else ob false
 else ob false
 else bif (gd p 0).int==0 then ob false
 else bif (gd p 0).int==1 then ob false
 else bif (gd p 0).int==3 then bif rangeOk (sub p 5 2) then bif inB (gd p 7).int (0) (3) then bif inB (gd p 1).int 1 60 then bif writesOk (gd p 3) then bif leI ((gd p 4).rows.length:Int) 16 then bif partsOk (gd p 8) then ob (!(anyS (fun r=>ixfCOC (.l [[]]) (sub r 0 3)) (gd p 4)))
 else ob false
 else ob false
 else ob false
 else ob false
 else ob false
 else ob false
 else ob false):=by kernel_rfl
def clientSmall (p:List D):Bool:=leI ((gd p 3).rows.length:Int) 1000000000&&(leI ((gd p 4).rows.length:Int) 1000000000&&leI ((gd p 8).rows.length:Int) 1000000000)
def clientIdle (p:List D):Bool:=((gd p 5).int==0)&&(((gd p 6).int==0)&&(((gd p 7).int==0)&&(((gd p 1).int==0)&&((((gd p 3).rows.length:Int)==0)&&((((gd p 4).rows.length:Int)==0)&&(((gd p 8).rows.length:Int)==0))))))
def clientBusy (p:List D):Bool:=inB (gd p 1).int 1 60&&(writesOk (gd p 3)&&(seenOk (gd p 4)&&partsOk (gd p 8)))
def clientPlace (p:List D):Bool:=bif (gd p 0).int==3 then rangeOk [gd p 5,gd p 6]&&inB (gd p 7).int 0 3 else ((gd p 5).int==0)&&(((gd p 6).int==0)&&((gd p 7).int==0))
def clientOk (p:List D):Bool:=inB (gd p 0).int 0 5&&(inB (gd p 2).int 0 1000000000&&(!(((gd p 2).int==0) && !((gd p 0).int==0))&&(bif ltI (gd p 0).int 2 then clientIdle p else clientPlace p&&clientBusy p)))
theorem seen_any (z:D):(!(anyS (fun r=>ixfCOC (.l [[]]) (sub r 0 3)) z))=(List.range z.rows.length).all (seenAt z):=by
 have:(fun k=>seenAt z k)=fun k => !(ixfCOC (.l [[]]) (sub (z.rows.getD k []) 0 3)):=by
  funext k
  unfold seenAt ixfCOC i_ClientOk_1F
  simp only [gd_cons_zero,gd_cons_succ,sub]
  cases inB (gd (z.rows.getD k []) 0).int 0 3 <;> simp
 show _=(List.range z.rows.length).all fun k=>seenAt z k
 rw [this,not_any]
 rfl
theorem seen_split (z:D):(leI (z.rows.length:Int) 16 && !(anyS (fun r=>ixfCOC (.l [[]]) (sub r 0 3)) z))=seenOk z:=by
 rw [seen_any,Bool.and_comm]; rfl
theorem sum_zero {a b c:Nat} (ha:leI (a:Int) 1000000000=true) (hb:leI (b:Int) 1000000000=true) (hc:leI (c:Int) 1000000000=true):(w64 ((w64 ((a:Int)+(b:Int)))+(c:Int))==0)=(((a:Int)==0)&&(((b:Int)==0)&&((c:Int)==0))):=by
 simp only [leI,decide_eq_true_eq] at ha hb hc
 rw [w64_id (x:=(a:Int)+b) (by omega) (by omega),w64_id (by omega) (by omega),Bool.eq_iff_iff]
 simp only [Bool.and_eq_true,beq_iff_eq]
 omega
theorem stage_lt (x:Int) (h:inB x 0 5=true):ltI x 2=((x==0)||(x==1)):=by
 simp only [inB,Bool.and_eq_true,decide_eq_true_eq] at h
 rw [Bool.eq_iff_iff]
 simp only [ltI,Bool.or_eq_true,beq_iff_eq,decide_eq_true_eq]
 omega
def i_ClientOkE:Ent:=(180,e1 (ag rIClient) fun p=>(⟨rb,[.b (clientOk p)]⟩,clientSmall p))
theorem i_ClientOk_ok:EntOk Tryz.prog i_ClientOkE:=e1_ok fun p h=>evFn_sound (N:=0) (ks:=i_ClientOkK) (key:=bo) i_ClientOkT_ok (enters Tryz.func180) Tryz.func180 fun hw=>by
 rw [i_ClientOk_ev]
 have h:clientSmall p=true:=h
 simp only [clientSmall,Bool.and_eq_true] at h
 rw [sum_zero h.1 h.2.1 h.2.2]
 rw [show rangeOk (sub p 5 2)=rangeOk [gd p 5,gd p 6] from rfl]
 simp only [bne_not]
 unfold clientOk clientIdle clientPlace clientBusy
 rw [← seen_split]
 cases hst:inB (gd p 0).int 0 5
 ·rfl
 rw [stage_lt _ hst]
 cases inB (gd p 2).int 0 1000000000
 ·rfl
 generalize anyS (fun r=>ixfCOC (.l [[]]) (sub r 0 3)) (gd p 4)=sa
 generalize (((gd p 3).rows.length:Int)==0)=l3
 generalize (((gd p 4).rows.length:Int)==0)=l4
 generalize (((gd p 8).rows.length:Int)==0)=l8
 have h30:((gd p 0).int==0)=true→((gd p 0).int==3)=false:=fun h=>by rw [eq_of_beq h]; rfl
 have h31:((gd p 0).int==1)=true→((gd p 0).int==3)=false:=fun h=>by rw [eq_of_beq h]; rfl
 generalize hs0:((gd p 0).int==0)=s0 at *
 generalize hs1:((gd p 0).int==1)=s1 at *
 generalize hs3:((gd p 0).int==3)=s3 at *
 clear hs0 hs1 hs3 hst h
 generalize ((gd p 2).int==0)=r0
 generalize ((gd p 5).int==0)=a5
 generalize ((gd p 6).int==0)=a6
 generalize ((gd p 7).int==0)=a7
 generalize ((gd p 1).int==0)=a1
 generalize rangeOk [gd p 5,gd p 6]=rg
 generalize inB (gd p 7).int 0 3=g7
 generalize inB (gd p 1).int 1 60=t1
 generalize writesOk (gd p 3)=wo
 generalize leI ((gd p 4).rows.length:Int) 16=l16
 generalize partsOk (gd p 8)=po
 cases r0 <;> cases s0 <;> cases s1 <;> cases a5 <;> cases a6 <;> cases a7 <;> try rfl
 all_goals (cases a1 <;> cases s3 <;> try rfl)
 all_goals (cases rg <;> cases g7 <;> try rfl)
 all_goals (cases t1 <;> try rfl)
 all_goals (cases wo <;> try rfl)
 all_goals (cases l16 <;> try rfl)
 all_goals (cases po <;> try rfl)
 all_goals (cases sa <;> rfl)
abbrev s_ClientOkT:FuncId→List T→Option (T × Bool):=find [s_l1InE,s_l1WholeE,s_l16RangeOkE,s_l15GroupE,s_l12TxE,s_WritesOkE,s_l16SeenOkE,s_PartsOkE]
theorem s_ClientOkT_ok:CallOk Tryz.prog s_ClientOkT:=find_ok (fC ⟨s_l1In_ok,fC ⟨s_l1Whole_ok,fC ⟨s_l16RangeOk_ok,fC ⟨s_l15Group_ok,fC ⟨s_l12Tx_ok,fC ⟨s_WritesOk_ok,fC ⟨s_l16SeenOk_ok,fC ⟨s_PartsOk_ok,fN⟩⟩⟩⟩⟩⟩⟩⟩)
abbrev s_ClientOkK:List Nat:= [0,1,2,3,23,39,66]
theorem s_ClientOk_ev (N:Nat) (p:List D):evFn Tryz.prog s_ClientOkT N s_ClientOkK Tryz.f132 rb [⟨ag rIClient,p⟩]=some (bo,
 bif !(inB (gd p 0).int 0 5) then ob false
 else bif !(inB (gd p 2).int (0) (1000000000)) then ob false
 else bif (gd p 0).int != 0 then bif (gd p 2).int==0 then ob false
 else bif (gd p 5).int==0 then bif (gd p 6).int==0 then bif ltI (gd p 0).int 2 then bif (gd p 7).int==0 then bif (gd p 1).int==0 then bif ((gd p 3).rows.length:Int)==0 then bif ((gd p 4).rows.length:Int)==0 then ob (((gd p 8).rows.length:Int)==0)
 else ob false
 else ob false
 else ob false
 else ob false
 else bif (gd p 0).int==3 then bif rangeOk [(gd p 5),(gd p 6)] then bif inB (gd p 7).int 0 3 then bif inB (gd p 1).int 1 60 then bif writesOk (gd p 3) then bif seenOk (gd p 4) then ob (partsOk (gd p 8))
 else ob false
 else ob false
 else ob false
 else ob false
 else ob false
 else bif (gd p 7).int==0 then bif inB (gd p 1).int 1 60 then bif writesOk (gd p 3) then bif seenOk (gd p 4) then ob (partsOk (gd p 8))
 else ob false
 else ob false
 else ob false
 else ob false
 else bif ltI (gd p 0).int 2 then ob false
 else bif (gd p 0).int==3 then bif rangeOk [(gd p 5),(gd p 6)] then bif inB (gd p 7).int 0 3 then bif inB (gd p 1).int 1 60 then bif writesOk (gd p 3) then bif seenOk (gd p 4) then ob (partsOk (gd p 8))
 else ob false
 else ob false
 else ob false
 else ob false
 else ob false
 else ob false
 else bif ltI (gd p 0).int 2 then ob false
 else bif (gd p 0).int==3 then bif rangeOk [(gd p 5),(gd p 6)] then bif inB (gd p 7).int 0 3 then bif inB (gd p 1).int 1 60 then bif writesOk (gd p 3) then bif seenOk (gd p 4) then ob (partsOk (gd p 8))
 else ob false
 else ob false
 else ob false
 else ob false
 else ob false
 else ob false
 else bif (gd p 5).int==0 then bif (gd p 6).int==0 then bif ltI (gd p 0).int 2 then bif (gd p 7).int==0 then bif (gd p 1).int==0 then bif ((gd p 3).rows.length:Int)==0 then bif ((gd p 4).rows.length:Int)==0 then ob (((gd p 8).rows.length:Int)==0)
 else ob false
 else ob false
 else ob false
 else ob false
 else bif (gd p 0).int==3 then bif rangeOk [(gd p 5),(gd p 6)] then bif inB (gd p 7).int 0 3 then bif inB (gd p 1).int 1 60 then bif writesOk (gd p 3) then bif seenOk (gd p 4) then ob (partsOk (gd p 8))
 else ob false
 else ob false
 else ob false
 else ob false
 else ob false
 else bif (gd p 7).int==0 then bif inB (gd p 1).int 1 60 then bif writesOk (gd p 3) then bif seenOk (gd p 4) then ob (partsOk (gd p 8))
 else ob false
 else ob false
 else ob false
 else ob false
 else bif ltI (gd p 0).int 2 then ob false
 else bif (gd p 0).int==3 then bif rangeOk [(gd p 5),(gd p 6)] then bif inB (gd p 7).int 0 3 then bif inB (gd p 1).int 1 60 then bif writesOk (gd p 3) then bif seenOk (gd p 4) then ob (partsOk (gd p 8))
 else ob false
 else ob false
 else ob false
 else ob false
 else ob false
 else ob false
 else bif ltI (gd p 0).int 2 then ob false
 else bif (gd p 0).int==3 then bif rangeOk [(gd p 5),(gd p 6)] then bif inB (gd p 7).int 0 3 then bif inB (gd p 1).int 1 60 then bif writesOk (gd p 3) then bif seenOk (gd p 4) then ob (partsOk (gd p 8))
 else ob false
 else ob false
 else ob false
 else ob false
 else ob false
 else ob false):=by kernel_rfl
def s_ClientOkE:Ent:=(132,e1 (ag rIClient) fun p=>(⟨rb,[.b (clientOk p)]⟩,true))
theorem s_ClientOk_ok:EntOk Tryz.prog s_ClientOkE:=e1_ok fun p h=>evFn_sound (N:=0) (ks:=s_ClientOkK) (key:=bo) s_ClientOkT_ok (enters Tryz.func132) Tryz.func132 fun hw=>by
 rw [s_ClientOk_ev]
 simp only [bne_not]
 unfold clientOk clientIdle clientPlace clientBusy
 generalize inB (gd p 0).int 0 5=st
 generalize inB (gd p 2).int 0 1000000000=rq
 generalize ltI (gd p 0).int 2=lt
 generalize (((gd p 3).rows.length:Int)==0)=l3
 generalize (((gd p 4).rows.length:Int)==0)=l4
 generalize (((gd p 8).rows.length:Int)==0)=l8
 generalize ((gd p 0).int==0)=s0
 generalize ((gd p 0).int==3)=s3
 generalize ((gd p 2).int==0)=r0
 generalize ((gd p 5).int==0)=a5
 generalize ((gd p 6).int==0)=a6
 generalize ((gd p 7).int==0)=a7
 generalize ((gd p 1).int==0)=a1
 generalize rangeOk [gd p 5,gd p 6]=rg
 generalize inB (gd p 7).int 0 3=g7
 generalize inB (gd p 1).int 1 60=t1
 generalize writesOk (gd p 3)=wo
 generalize seenOk (gd p 4)=so
 generalize partsOk (gd p 8)=po
 cases st <;> try rfl
 cases rq <;> try rfl
 cases r0 <;> cases s0 <;> cases lt <;> cases a5 <;> cases a6 <;> cases a7 <;> try rfl
 all_goals (cases a1 <;> cases s3 <;> try rfl)
 all_goals (cases rg <;> cases g7 <;> try rfl)
 all_goals (cases t1 <;> try rfl)
 all_goals (cases wo <;> try rfl)
 all_goals (cases so <;> try rfl)
 all_goals (cases po <;> try rfl)
 all_goals (cases l3 <;> try rfl)
 all_goals (cases l4 <;> rfl)
end Go.Proofs.YtchceahcaaibcaaGreat
namespace Go.Proofs.YtchceahcaaibcaaGreat
set_option maxRecDepth 4096
set_option maxHeartbeats 1000000
abbrev i_LocksHoldT:FuncId→List T→Option (T × Bool):=find [i_LocksOkE,i_RangeOkE,i_isModeE,cofLHE]
theorem i_LocksHoldT_ok:CallOk Tryz.prog i_LocksHoldT:=find_ok (fC ⟨i_LocksOk_ok,fC ⟨i_RangeOk_ok,fC ⟨i_isMode_ok,fC ⟨cofLH_ok,fN⟩⟩⟩⟩)
abbrev i_LocksHoldK:List Nat:= [0,1,2,3,5,6,7,8]
theorem i_LocksHold_ev (N:Nat) (p q r s:List D):evFn Tryz.prog i_LocksHoldT N i_LocksHoldK Tryz.f263 rb [⟨sd (.sl 138),p⟩,⟨ri,q⟩,⟨ag rIRange,r⟩,⟨ri,s⟩]=some (bo,
 bif locksOk (gd p 0) then bif rangeOk (sub r 0 2) then bif i_isModeF [(gd s 0)] then ob (anyS (fun rr=>ixfLHC (.l [[.l [[gd q 0]],.l [[gd s 0]],.l [sub r 0 2]]]) (sub rr 0 4)) (gd p 0))
 else ob false
 else ob false
 else ob false):=by kernel_rfl
def locksHold (z tx:D) (a:List D) (mode:D):Bool:=locksOk z&&(rangeOk a&&(i_isModeF [mode]&&anyS (fun r=>ixfLHC (.l [[.l [[tx]],.l [[mode]],.l [sub a 0 2]]]) (sub r 0 4)) z))
def i_LocksHoldE:Ent:=(263,e4 (sd (.sl 138)) ri (ag rIRange) ri fun p q r s=>(⟨rb,[.b (locksHold (gd p 0) (gd q 0) r (gd s 0))]⟩,true))
theorem i_LocksHold_ok:EntOk Tryz.prog i_LocksHoldE:=e4_ok fun p q r s h=>evFn_sound (N:=0) (ks:=i_LocksHoldK) (key:=bo) i_LocksHoldT_ok (enters Tryz.func263) Tryz.func263 fun hw=>by
 rw [i_LocksHold_ev]
 rw [show rangeOk (sub r 0 2)=rangeOk r from rfl]
 unfold locksHold
 cases locksOk (gd p 0) <;> try rfl
 cases rangeOk r <;> try rfl
 cases i_isModeF [gd s 0] <;> rfl
abbrev s_l12HoldsT:FuncId→List T→Option (T × Bool):=find [s_l12RangeE,s_RangeInE]
theorem s_l12HoldsT_ok:CallOk Tryz.prog s_l12HoldsT:=find_ok (fC ⟨s_l12Range_ok,fC ⟨s_RangeIn_ok,fN⟩⟩)
abbrev s_l12HoldsK:List Nat:= [0,1,2,3,6,8,9,13,40]
noncomputable def s_l12HoldsL0 (N:Nat) (p q r s:List D):List D→Out:=loopOf Tryz.prog s_l12HoldsT N s_l12HoldsK Tryz.f242 rb [⟨sd (.sl 138),p⟩,⟨ri,q⟩,⟨ag rIRange,r⟩,⟨ri,s⟩] 0
theorem s_l12HoldsR0 (N:Nat) (p q r s:List D) (x0 x1 x2 x3 x4 x5 x6 x7 x8 x9:D):(s_l12HoldsL0 N p q r s) [x0,x1,x2,x3,x4,x5,x6,x7,x8,x9] =
 bif ltI x7.int (x0.rows.length:Int) then nd (inRange x7.int x0.rows.length) (bif (gd (x0.rows.getD x7.int.toNat []) 0).int==x1.int then nd (inRange x7.int x0.rows.length) (bif s_RangeInF [x8,x9] [(gd (x0.rows.getD x7.int.toNat []) 1),(gd (x0.rows.getD x7.int.toNat []) 2)] then nd (inRange x7.int x0.rows.length) (bif leI x4.int (gd (x0.rows.getD x7.int.toNat []) 3).int then ob true
 else nx [x0,x1,x2,x3,x4,x5,x6,.i (w64 (x7.int+1)),x8,x9])
 else nx [x0,x1,x2,x3,x4,x5,x6,.i (w64 (x7.int+1)),x8,x9])
 else nx [x0,x1,x2,x3,x4,x5,x6,.i (w64 (x7.int+1)),x8,x9])
 else ex 0 [x0,x1,x2,x3,x4,x5,x6,x7,x8,x9]:=by kernel_rfl
theorem s_l12Holds_ev (N:Nat) (p q r s:List D):evFn Tryz.prog s_l12HoldsT N s_l12HoldsK Tryz.f242 rb [⟨sd (.sl 138),p⟩,⟨ri,q⟩,⟨ag rIRange,r⟩,⟨ri,s⟩]=some (bo,
 (let o0:=iter (s_l12HoldsL0 N p q r s) N [gd p 0,gd q 0,gd r 0,gd r 1,gd s 0,.i 0,.i 0,.i 0,gd r 0,gd r 1]
  nd o0.isSome (bif o0.code==1 then some (1,o0.pay)
  else nd (o0.code==2) (ob false)))):=by kernel_rfl
def holdS (r:List D) (tx:D) (a:List D) (mode:D):Bool:=((gd r 0).int==tx.int)&&(s_RangeInF a [gd r 1,gd r 2]&&leI mode.int (gd r 3).int)
def holds (z tx:D) (a:List D) (mode:D):Bool:=(List.range z.rows.length).any fun k=>holdS (z.rows.getD k []) tx a mode
theorem lock_row {z:D} (h:locksOk z=true) {k:Nat} (hk:k<z.rows.length):rangeOk [gd (z.rows.getD k []) 1,gd (z.rows.getD k []) 2]=true∧i_isModeF [gd (z.rows.getD k []) 3]=true:=by
 simp only [locksOk,Bool.and_eq_true,List.all_eq_true,List.mem_range] at h
 have:=h.1 k hk
 simp only [lockAt,Bool.and_eq_true] at this
 exact ⟨this.2.1,this.2.2.1⟩
theorem any_congr {n:Nat} {C C':Nat→Bool} (h:∀ k,k<n→C k=C' k):(List.range n).any C=(List.range n).any C':=by
 rw [Bool.eq_iff_iff]
 simp only [List.any_eq_true,List.mem_range]
 exact ⟨fun ⟨k,hk,hc⟩=>⟨k,hk,by rw [← h k hk]; exact hc⟩,fun ⟨k,hk,hc⟩=>⟨k,hk,by rw [h k hk]; exact hc⟩⟩
theorem all_congr {n:Nat} {C C':Nat→Bool} (h:∀ k,k<n→C k=C' k):(List.range n).all C=(List.range n).all C':=by
 rw [Bool.eq_iff_iff]
 simp only [List.all_eq_true,List.mem_range]
 exact ⟨fun hc k hk=>by rw [← h k hk]; exact hc k hk,fun hc k hk=>by rw [h k hk]; exact hc k hk⟩
theorem hold_same {z tx:D} {a:List D} (hz:locksOk z=true) (ha:rangeOk a=true):holds z tx a (.i 2)=locksHold z tx a (.i 2):=by
 unfold holds locksHold
 rw [hz,ha,Bool.true_and,Bool.true_and,show i_isModeF [.i 2]=true from rfl,Bool.true_and]
 unfold anyS
 refine any_congr fun k hk=>?_
 obtain ⟨h1,h2⟩:=lock_row hz hk
 show holdS (z.rows.getD k []) tx a (.i 2)=i_LocksHold_1F (sub (z.rows.getD k []) 0 4) [.l [[tx]]] [.l [[.i 2]]] [.l [sub a 0 2]]
 have e:i_LocksHold_1F (sub (z.rows.getD k []) 0 4) [.l [[tx]]] [.l [[.i 2]]] [.l [sub a 0 2]]=(bif (gd (z.rows.getD k []) 0).int==tx.int then bif (gd (z.rows.getD k []) 3).int==2 then bif leI (gd (z.rows.getD k []) 1).int (gd a 0).int then leI (gd a 1).int (gd (z.rows.getD k []) 2).int else false else bif (gd (z.rows.getD k []) 3).int==2 then bif leI (gd (z.rows.getD k []) 1).int (gd a 0).int then leI (gd a 1).int (gd (z.rows.getD k []) 2).int else false else false else false):=rfl
 rw [e]
 unfold holdS s_RangeInF
 rw [show rangeOk (sub a 0 2)=rangeOk a from rfl,ha,show rangeOk (sub [gd (z.rows.getD k []) 1,gd (z.rows.getD k []) 2] 0 2)=rangeOk [gd (z.rows.getD k []) 1,gd (z.rows.getD k []) 2] from rfl,h1]
 simp only [cond_true,gd_cons_zero,gd_cons_succ,int_i]
 have hm:leI 2 (gd (z.rows.getD k []) 3).int=((gd (z.rows.getD k []) 3).int==2):=by
  have h2:(bif (gd (z.rows.getD k []) 3).int==1 then true else (gd (z.rows.getD k []) 3).int==2)=true:=h2
  cases h3:(gd (z.rows.getD k []) 3).int==1
  ·rw [h3,cond_false] at h2
   rw [h2,eq_of_beq h2]; rfl
  ·rw [eq_of_beq h3]; rfl
 rw [hm]
 cases (gd (z.rows.getD k []) 0).int==tx.int <;> cases (gd (z.rows.getD k []) 3).int==2 <;> cases leI (gd (z.rows.getD k []) 1).int (gd a 0).int <;> cases leI (gd a 1).int (gd (z.rows.getD k []) 2).int <;> rfl
def s_l12HoldsE:Ent:=(242,e4 (sd (.sl 138)) ri (ag rIRange) ri fun p q r s=>(⟨rb,[.b (holds (gd p 0) (gd q 0) r (gd s 0))]⟩,true))
theorem s_l12Holds_ok:EntOk Tryz.prog s_l12HoldsE:=e4_ok fun p q r s h=>evFn_sound (N:=(gd p 0).rows.length+1) (ks:=s_l12HoldsK) (key:=bo) s_l12HoldsT_ok (enters Tryz.func242) Tryz.func242 fun hw=>by
 rw [s_l12Holds_ev]
 have hl:=wt_sl (hw ⟨sd (.sl 138),p⟩ (by simp))
 have e:=any_loop (L:=s_l12HoldsL0 ((gd p 0).rows.length+1) p q r s) (fun k => [gd p 0,gd q 0,gd r 0,gd r 1,gd s 0,.i 0,.i 0,.i (k:Int),gd r 0,gd r 1]) (gd p 0).rows.length (fun k=>holdS ((gd p 0).rows.getD k []) (gd q 0) r (gd s 0)) [.b true] 0 (fun k hk=>?_) ?_ (N:=(gd p 0).rows.length+1) (by omega)
 ·simp only [Int.natCast_zero] at e
  rw [e]
  unfold holds
  cases (List.range (gd p 0).rows.length).any (fun k=>holdS ((gd p 0).rows.getD k []) (gd q 0) r (gd s 0)) <;> rfl
 ·show s_l12HoldsL0 _ p q r s [_,_,_,_,_,_,_,.i (k:Int),_,_]=_
  rw [s_l12HoldsR0]
  simp only [int_i,c_lt hk,nd_ix hk,w64_succ hk hl,Int.toNat_natCast]
  rw [show s_RangeInF [gd r 0,gd r 1] [gd ((gd p 0).rows.getD k []) 1,gd ((gd p 0).rows.getD k []) 2]=s_RangeInF r [gd ((gd p 0).rows.getD k []) 1,gd ((gd p 0).rows.getD k []) 2] from rfl]
  unfold holdS
  cases (gd ((gd p 0).rows.getD k []) 0).int==(gd q 0).int <;> cases s_RangeInF r [gd ((gd p 0).rows.getD k []) 1,gd ((gd p 0).rows.getD k []) 2] <;> cases leI (gd s 0).int (gd ((gd p 0).rows.getD k []) 3).int <;> rfl
 ·show s_l12HoldsL0 _ p q r s [_,_,_,_,_,_,_,.i ((gd p 0).rows.length:Int),_,_]=_
  rw [s_l12HoldsR0]
  simp only [int_i,c_nlt]
abbrev i_txsOfT:FuncId→List T→Option (T × Bool):=find []
theorem i_txsOfT_ok:CallOk Tryz.prog i_txsOfT:=find_ok (fN)
abbrev i_txsOfK:List Nat:= [0,2,3,5,7,8,9,10]
noncomputable def i_txsOfL0 (N:Nat) (p:List D):List D→Out:=loopOf Tryz.prog i_txsOfT N i_txsOfK Tryz.f173 (.one (.c (.own (0,0) true 3))) [⟨sd (.sl 248),p⟩] 0
theorem i_txsOfR0 (N:Nat) (p:List D) (x0 x1 x2 x3 x4 x5:D):(i_txsOfL0 N p) [x0,x1,x2,x3,x4,x5] =
 bif ltI x5.int x4.int then nd (inRange x5.int x3.rows.length) (nd (lenOk (x2.rows ++ [[gd (x3.rows.getD x5.int.toNat []) 0]])&&true) (nx [x0,x1,.l (x2.rows ++ [[gd (x3.rows.getD x5.int.toNat []) 0]]),x3,x4,.i (w64 (x5.int+1))]))
 else ex 0 [x0,x1,x2,x3,x4,x5]:=by kernel_rfl
theorem i_txsOf_ev (N:Nat) (p:List D):evFn Tryz.prog i_txsOfT N i_txsOfK Tryz.f173 (.one (.c (.own (0,0) true 3))) [⟨sd (.sl 248),p⟩]=some (bo,
 (let o0:=iter (i_txsOfL0 N p) N [gd p 0,.l [],.l [],gd p 0,.i ((gd p 0).rows.length:Int),.i 0]
  nd o0.isSome (nd (o0.code==2) (some (1,[gd o0.pay 2]))))):=by kernel_rfl
def txsD (z:D):D:=.l (z.rows.map fun r => [gd r 0])
def i_txsOfE:Ent:=(173,e1 (sd (.sl 248)) fun p=>(⟨.one (.c (.own (0,0) true 3)),[txsD (gd p 0)]⟩,leI ((gd p 0).rows.length:Int) 1000000000))
theorem i_txsOf_ok:EntOk Tryz.prog i_txsOfE:=e1_ok fun p h=>evFn_sound (N:=(gd p 0).rows.length+1) (ks:=i_txsOfK) (key:=bo) i_txsOfT_ok (enters Tryz.func173) Tryz.func173 fun hw=>by
 rw [i_txsOf_ev]
 have h:leI ((gd p 0).rows.length:Int) 1000000000=true:=h
 simp only [leI,decide_eq_true_eq] at h
 have e:=run_loop (L:=i_txsOfL0 ((gd p 0).rows.length+1) p) (fun k => [gd p 0,.l [],.l (((gd p 0).rows.take k).map fun r => [gd r 0]),gd p 0,.i ((gd p 0).rows.length:Int),.i (k:Int)]) (gd p 0).rows.length 0 (fun k hk=>?_) ?_ (N:=(gd p 0).rows.length+1) (by omega)
 ·simp only [Int.natCast_zero,List.take_zero,List.map_nil,List.take_length] at e
  rw [e]
  rfl
 ·show i_txsOfL0 _ p [_,_,.l (((gd p 0).rows.take k).map fun r => [gd r 0]),_,_,.i (k:Int)]=_
  rw [i_txsOfR0]
  have ht:((gd p 0).rows.take (k+1)).map (fun r => [gd r 0])=((gd p 0).rows.take k).map (fun r => [gd r 0]) ++ [[gd ((gd p 0).rows.getD k []) 0]]:=by
   rw [List.take_succ_eq_append_getElem hk,List.map_append,List.getD_eq_getElem?_getD,List.getElem?_eq_getElem hk]
   rfl
  have hd:lenOk (((gd p 0).rows.take k).map (fun r => [gd r 0]) ++ [[gd ((gd p 0).rows.getD k []) 0]])=true:=lenOk_t (by simp; omega)
  simp only [int_i,rows_l,c_lt hk,nd_ix hk,w64_succ hk (show (gd p 0).rows.length≤9223372036854775807 from by omega),Int.toNat_natCast]
  rw [hd,ht]
  rfl
 ·show i_txsOfL0 _ p [_,_,_,_,.i ((gd p 0).rows.length:Int),.i ((gd p 0).rows.length:Int)]=_
  rw [i_txsOfR0]
  simp only [int_i,c_nlt]
abbrev i_heldsOk_1T:FuncId→List T→Option (T × Bool):=find [i_oneE,i_LocksHoldE]
theorem i_heldsOk_1T_ok:CallOk Tryz.prog i_heldsOk_1T:=find_ok (fC ⟨i_one_ok,fC ⟨i_LocksHold_ok,fN⟩⟩)
abbrev i_heldsOk_1K:List Nat:= [0,1,2,3,4]
theorem i_heldsOk_1_ev (N:Nat) (p q r:List D):evFn Tryz.prog i_heldsOk_1T N i_heldsOk_1K Tryz.f262 rb [⟨ag rIWrite,p⟩,⟨.one (.c (.cptr [si,.sl 122,.sl 122,.sl 176,.sl 138,.sl 248,.sl 3,.sl 3,si] 0)),q⟩,⟨.one (.c (.cptr [si,.sl 132] 0)),r⟩]=some (bo,
 ob (!(locksHold (gd ((gd q 0).rows.getD 0 []) 4) (gd ((gd r 0).rows.getD 0 []) 0) [(gd p 0),.i (w64 ((gd p 0).int+1))] (.i 2)))):=by kernel_rfl
def i_heldsOk_1F (p q r:List D):Bool:=
 !(locksHold (gd ((gd q 0).rows.getD 0 []) 4) (gd ((gd r 0).rows.getD 0 []) 0) [(gd p 0),.i (w64 ((gd p 0).int+1))] (.i 2))
def i_heldsOk_1E:Ent:=(262,e3 (ag rIWrite) (.one (.c (.cptr [si,.sl 122,.sl 122,.sl 176,.sl 138,.sl 248,.sl 3,.sl 3,si] 0))) (.one (.c (.cptr [si,.sl 132] 0))) fun p q r=>(⟨rb,[.b (i_heldsOk_1F p [gd q 0] [gd r 0])]⟩,true))
theorem i_heldsOk_1_ok:EntOk Tryz.prog i_heldsOk_1E:=e3_ok fun p q r h=>evFn_sound (N:=0) (ks:=i_heldsOk_1K) (key:=bo) i_heldsOk_1T_ok (enters Tryz.func262) Tryz.func262 fun hw=>by
 rw [i_heldsOk_1_ev]
 try simp only [cond_ob,cond_oi,cond_os]
 rfl
abbrev ixfHOT:FuncId→List T→Option (T × Bool):=find [i_heldsOk_1E]
theorem ixfHOT_ok:CallOk Tryz.prog ixfHOT:=find_ok (fC ⟨i_heldsOk_1_ok,fN⟩)
abbrev ixfHOK:List Nat:= [0,1,4,5,7,8,9,16]
noncomputable def ixfHOL0 (N:Nat) (p q:List D):List D→Out:=loopOf Tryz.prog ixfHOT N ixfHOK Tryz.f308 ri [⟨sd (.sl 132),p⟩,⟨.one (.c (.fn 262 [.cptr [si,.sl 122,.sl 122,.sl 176,.sl 138,.sl 248,.sl 3,.sl 3,si] 0,.cptr [si,.sl 132] 0])),q⟩] 0
theorem ixfHOR0 (N:Nat) (p q:List D) (x0 x1 x2 x3 x4:D):(ixfHOL0 N p q) [x0,x1,x2,x3,x4] =
 bif ltI x4.int x3.int then nd (inRange x4.int x0.rows.length) (bif i_heldsOk_1F (sub (x0.rows.getD x4.int.toNat []) 0 2) [gd (x1.rows.getD 0 []) 0] [gd (x1.rows.getD 0 []).tail 0] then some (1,[x4])
 else nx [x0,x1,x2,x3,.i (w64 (x4.int+1))])
 else ex 0 [x0,x1,x2,x3,x4]:=by kernel_rfl
theorem ixfHO_ev (N:Nat) (p q:List D):evFn Tryz.prog ixfHOT N ixfHOK Tryz.f308 ri [⟨sd (.sl 132),p⟩,⟨.one (.c (.fn 262 [.cptr [si,.sl 122,.sl 122,.sl 176,.sl 138,.sl 248,.sl 3,.sl 3,si] 0,.cptr [si,.sl 132] 0])),q⟩]=some (bo,
 (let o0:=iter (ixfHOL0 N p q) N [gd p 0,gd q 0,.i 0,.i ((gd p 0).rows.length:Int),.i 0]
  nd o0.isSome (bif o0.code==1 then some (1,o0.pay)
  else nd (o0.code==2) (oi (-1))))):=by kernel_rfl
def ixfHOC (c:D) (r:List D):Bool:=i_heldsOk_1F r [gd (c.rows.getD 0 []) 0] [gd (c.rows.getD 0 []).tail 0]
def ixfHOE:Ent:=(308,e2 (sd (.sl 132)) (.one (.c (.fn 262 [.cptr [si,.sl 122,.sl 122,.sl 176,.sl 138,.sl 248,.sl 3,.sl 3,si] 0,.cptr [si,.sl 132] 0]))) fun p q=>(⟨ri,[.i (ixF (fun k=>ixfHOC (gd q 0) (sub ((gd p 0).rows.getD k []) 0 2)) 0 (gd p 0).rows.length)]⟩,true))
theorem ixfHO_ok:EntOk Tryz.prog ixfHOE:=e2_ok fun p q h=>evFn_sound (N:=(gd p 0).rows.length+1) (ks:=ixfHOK) (key:=bo) ixfHOT_ok (enters Tryz.func308) Tryz.func308 fun hw=>by
 rw [ixfHO_ev]
 have hl:=wt_sl (hw ⟨sd (.sl 132),p⟩ (by simp))
 have e:=ix_loop (L:=ixfHOL0 ((gd p 0).rows.length+1) p q) (fun k => [gd p 0,gd q 0,.i 0,.i ((gd p 0).rows.length:Int),.i (k:Int)]) (gd p 0).rows.length (fun k=>ixfHOC (gd q 0) (sub ((gd p 0).rows.getD k []) 0 2)) [gd p 0,gd q 0,.i 0,.i ((gd p 0).rows.length:Int),.i ((gd p 0).rows.length:Int)] (fun k hk=>?_) ?_ (gd p 0).rows.length 0 ((gd p 0).rows.length+1) (by omega) (by omega)
 ·simp only [Int.natCast_zero] at e
  rw [e]
  have hno:=ixF_neg (fun k=>ixfHOC (gd q 0) (sub ((gd p 0).rows.getD k []) 0 2)) (gd p 0).rows.length 0
  cases hd:decide (ixF (fun k=>ixfHOC (gd q 0) (sub ((gd p 0).rows.getD k []) 0 2)) 0 (gd p 0).rows.length≥0)
  ·rw [hno hd]; rfl
  ·rfl
 ·show ixfHOL0 _ p q [_,_,_,_,.i (k:Int)]=_
  rw [ixfHOR0]
  simp only [int_i,c_lt hk,nd_ix hk,w64_succ hk hl,Int.toNat_natCast]
  unfold ixfHOC
  cases i_heldsOk_1F (sub ((gd p 0).rows.getD k []) 0 2) [gd ((gd q 0).rows.getD 0 []) 0] [gd ((gd q 0).rows.getD 0 []).tail 0] <;> rfl
 ·show ixfHOL0 _ p q [_,_,_,.i ((gd p 0).rows.length:Int),.i ((gd p 0).rows.length:Int)]=_
  rw [ixfHOR0]
  simp only [int_i,c_nlt]
abbrev cofHOT:FuncId→List T→Option (T × Bool):=find [ixfHOE,i_heldsOk_1E]
theorem cofHOT_ok:CallOk Tryz.prog cofHOT:=find_ok (fC ⟨ixfHO_ok,fC ⟨i_heldsOk_1_ok,fN⟩⟩)
abbrev cofHOK:List Nat:= [0,1,4]
theorem cofHO_ev (N:Nat) (p q:List D):evFn Tryz.prog cofHOT N cofHOK Tryz.f261 rb [⟨sd (.sl 132),p⟩,⟨.one (.c (.fn 262 [.cptr [si,.sl 122,.sl 122,.sl 176,.sl 138,.sl 248,.sl 3,.sl 3,si] 0,.cptr [si,.sl 132] 0])),q⟩]=some (bo,
 ob (leI 0 (ixF (fun k=>ixfHOC (.l [[gd ((gd q 0).rows.getD 0 []) 0,gd ((gd q 0).rows.getD 0 []).tail 0]]) (sub ((gd p 0).rows.getD k []) 0 2)) 0 (gd p 0).rows.length))):=by kernel_rfl
def cofHOE:Ent:=(261,e2 (sd (.sl 132)) (.one (.c (.fn 262 [.cptr [si,.sl 122,.sl 122,.sl 176,.sl 138,.sl 248,.sl 3,.sl 3,si] 0,.cptr [si,.sl 132] 0]))) fun p q=>(⟨rb,[.b (anyS (fun rr=>ixfHOC (gd q 0) (sub rr 0 2)) (gd p 0))]⟩,true))
theorem cofHO_ok:EntOk Tryz.prog cofHOE:=e2_ok fun p q h=>evFn_sound (N:=0) (ks:=cofHOK) (key:=bo) cofHOT_ok (enters Tryz.func261) Tryz.func261 fun hw=>by
 rw [cofHO_ev]
 refine congrArg (fun x=>some (bo,ob x)) ?_
 exact (ixF_any (fun k=>ixfHOC (gd q 0) (sub ((gd p 0).rows.getD k []) 0 2)) (gd p 0).rows.length 0).trans (by simp only [Nat.zero_add]; rfl)
abbrev i_heldsOkT:FuncId→List T→Option (T × Bool):=find [i_WritesOkE,cofHOE,i_txsOfE,i_ascendingE]
theorem i_heldsOkT_ok:CallOk Tryz.prog i_heldsOkT:=find_ok (fC ⟨i_WritesOk_ok,fC ⟨cofHO_ok,fC ⟨i_txsOf_ok,fC ⟨i_ascending_ok,fN⟩⟩⟩⟩)
abbrev i_heldsOkK:List Nat:= [0,1,2,4,6,7,8,9,21]
noncomputable def i_heldsOkL0 (N:Nat) (p:List D):List D→Out:=loopOf Tryz.prog i_heldsOkT N i_heldsOkK Tryz.f164 rb [⟨ag rIShard,p⟩] 0
theorem i_heldsOkR0 (N:Nat) (p:List D) (x0 x1 x2 x3 x4 x5 x6 x7 x8 x9 x10 x11 x12 x13 x14 x15 x16 x17 x18 x19 x20 x21 x22:D):(i_heldsOkL0 N p) [x0,x1,x2,x3,x4,x5,x6,x7,x8,x9,x10,x11,x12,x13,x14,x15,x16,x17,x18,x19,x20,x21,x22] =
 bif ltI x13.int x12.int then nd (inRange x13.int x11.rows.length) (bif !(writesOk (gd (x11.rows.getD x13.int.toNat []) 1)) then ob false
 else bif anyS (fun rr=>ixfHOC (.l [[.l [[x14,x15,x16,x17,x18,x19,x20,x21,x22]],.l [sub (x11.rows.getD x13.int.toNat []) 0 2]]]) (sub rr 0 2)) (gd (x11.rows.getD x13.int.toNat []) 1) then ob false
 else nx [x0,x1,x2,x3,x4,x5,x6,x7,x8,x9,x10,x11,x12,.i (w64 (x13.int+1)),x14,x15,x16,x17,x18,x19,x20,x21,x22])
 else ex 0 [x0,x1,x2,x3,x4,x5,x6,x7,x8,x9,x10,x11,x12,x13,x14,x15,x16,x17,x18,x19,x20,x21,x22]:=by kernel_rfl
theorem i_heldsOk_ev (N:Nat) (p:List D):evFn Tryz.prog i_heldsOkT N i_heldsOkK Tryz.f164 rb [⟨ag rIShard,p⟩]=some (bo,
 (let o0:=iter (i_heldsOkL0 N p) N [gd p 0,gd p 1,gd p 2,gd p 3,gd p 4,gd p 5,gd p 6,gd p 7,gd p 8,.i 0,.i 0,gd p 5,.i ((gd p 5).rows.length:Int),.i 0,gd p 0,gd p 1,gd p 2,gd p 3,gd p 4,gd p 5,gd p 6,gd p 7,gd p 8]
  nd o0.isSome (bif o0.code==1 then some (1,o0.pay)
  else nd (o0.code==2) (nd (leI ((gd o0.pay 19).rows.length:Int) 1000000000) (ob (ascOk (txsD (gd o0.pay 19)))))))):=by kernel_rfl
def oneAt (w:List D):List D:= [gd w 0,.i (w64 ((gd w 0).int+1))]
def heldAt (p:List D) (k:Nat):Bool:=writesOk (gd ((gd p 5).rows.getD k []) 1)&&(List.range (gd ((gd p 5).rows.getD k []) 1).rows.length).all fun j=>locksHold (gd p 4) (gd ((gd p 5).rows.getD k []) 0) (oneAt ((gd ((gd p 5).rows.getD k []) 1).rows.getD j [])) (.i 2)
def heldsOk (p:List D):Bool:=(List.range (gd p 5).rows.length).all (heldAt p)&&ascOk (txsD (gd p 5))
def i_heldsOkE:Ent:=(164,e1 (ag rIShard) fun p=>(⟨rb,[.b (heldsOk p)]⟩,leI ((gd p 5).rows.length:Int) 1000000000))
theorem i_heldsOk_ok:EntOk Tryz.prog i_heldsOkE:=e1_ok fun p h=>evFn_sound (N:=(gd p 5).rows.length+1) (ks:=i_heldsOkK) (key:=bo) i_heldsOkT_ok (enters Tryz.func164) Tryz.func164 fun hw=>by
 rw [i_heldsOk_ev]
 have h:leI ((gd p 5).rows.length:Int) 1000000000=true:=h
 have h':=h
 simp only [leI,decide_eq_true_eq] at h'
 have e:=for_loop (L:=i_heldsOkL0 ((gd p 5).rows.length+1) p) (fun k => [gd p 0,gd p 1,gd p 2,gd p 3,gd p 4,gd p 5,gd p 6,gd p 7,gd p 8,.i 0,.i 0,gd p 5,.i ((gd p 5).rows.length:Int),.i (k:Int),gd p 0,gd p 1,gd p 2,gd p 3,gd p 4,gd p 5,gd p 6,gd p 7,gd p 8]) (gd p 5).rows.length (heldAt p) [.b false] 0 (fun k hk=>?_) ?_ (N:=(gd p 5).rows.length+1) (by omega)
 ·simp only [Int.natCast_zero] at e
  rw [e]
  unfold heldsOk
  cases (List.range (gd p 5).rows.length).all (heldAt p)
  ·rfl
  ·simp only [nd,cond_true,cond_false,Option.isSome_some,Out.code,Out.pay,Option.getD_some,gd_cons_zero,gd_cons_succ,Nat.reduceBEq,Nat.reduceAdd,int_i,bool_b,str_s,rows_l,Bool.not_true,Bool.not_false,beq_self_eq_true,h]
   rfl
 ·show i_heldsOkL0 _ p [_,_,_,_,_,_,_,_,_,_,_,_,_,.i (k:Int),_,_,_,_,_,_,_,_,_]=_
  rw [i_heldsOkR0]
  simp only [int_i,c_lt hk,nd_ix hk,w64_succ hk (show (gd p 5).rows.length≤9223372036854775807 from by omega),Int.toNat_natCast]
  have ea:(!anyS (fun r=>ixfHOC (.l [[.l [[gd p 0,gd p 1,gd p 2,gd p 3,gd p 4,gd p 5,gd p 6,gd p 7,gd p 8]],.l [sub ((gd p 5).rows.getD k []) 0 2]]]) (sub r 0 2)) (gd ((gd p 5).rows.getD k []) 1))=(List.range (gd ((gd p 5).rows.getD k []) 1).rows.length).all fun j=>locksHold (gd p 4) (gd ((gd p 5).rows.getD k []) 0) (oneAt ((gd ((gd p 5).rows.getD k []) 1).rows.getD j [])) (.i 2):=by
   unfold anyS
   rw [← not_any]
   refine all_congr fun j _=>?_
   show (!(!locksHold (gd p 4) (gd ((gd p 5).rows.getD k []) 0) (oneAt ((gd ((gd p 5).rows.getD k []) 1).rows.getD j [])) (.i 2)))=_
   rw [Bool.not_not]
  unfold heldAt
  rw [← ea]
  cases writesOk (gd ((gd p 5).rows.getD k []) 1) <;> cases anyS (fun r=>ixfHOC (.l [[.l [[gd p 0,gd p 1,gd p 2,gd p 3,gd p 4,gd p 5,gd p 6,gd p 7,gd p 8]],.l [sub ((gd p 5).rows.getD k []) 0 2]]]) (sub r 0 2)) (gd ((gd p 5).rows.getD k []) 1) <;> rfl
 ·show i_heldsOkL0 _ p [_,_,_,_,_,_,_,_,_,_,_,_,.i ((gd p 5).rows.length:Int),.i ((gd p 5).rows.length:Int),_,_,_,_,_,_,_,_,_]=_
  rw [i_heldsOkR0]
  simp only [int_i,c_nlt]
abbrev s_l13HeldsOkT:FuncId→List T→Option (T × Bool):=find [s_l12TxE,s_WritesOkE,s_l10OneE,s_l12HoldsE,s_l12HasE]
theorem s_l13HeldsOkT_ok:CallOk Tryz.prog s_l13HeldsOkT:=find_ok (fC ⟨s_l12Tx_ok,fC ⟨s_WritesOk_ok,fC ⟨s_l10One_ok,fC ⟨s_l12Holds_ok,fC ⟨s_l12Has_ok,fN⟩⟩⟩⟩⟩)
abbrev s_l13HeldsOkK:List Nat:= [0,1,2,3,4,5,10,43,48,63,75]
noncomputable def s_l13HeldsOkL0 (N:Nat) (p:List D):List D→Out:=loopOf Tryz.prog s_l13HeldsOkT N s_l13HeldsOkK Tryz.f137 rb [⟨ag rIShard,p⟩] 0
noncomputable def s_l13HeldsOkL2 (N:Nat) (p:List D):List D→Out:=loopOf Tryz.prog s_l13HeldsOkT N s_l13HeldsOkK Tryz.f137 rb [⟨ag rIShard,p⟩] 2
theorem s_l13HeldsOkR0 (N:Nat) (p:List D) (x0 x1 x2 x3 x4 x5 x6 x7 x8 x9 x10 x11 x12 x13 x14 x15 x16 x17 x18 x19 x20:D):(s_l13HeldsOkL0 N p) [x0,x1,x2,x3,x4,x5,x6,x7,x8,x9,x10,x11,x12,x13,x14,x15,x16,x17,x18,x19,x20] =
 bif ltI x11.int (x17.rows.length:Int) then nd (inRange x11.int x17.rows.length) (bif !(inB (gd (x17.rows.getD x11.int.toNat []) 0).int 1 60) then ob false
 else bif ltI 0 x11.int then nd (inRange (w64 (x11.int - 1)) x17.rows.length) (bif leI (gd (x17.rows.getD x11.int.toNat []) 0).int (gd (x17.rows.getD (w64 (x11.int - 1)).toNat []) 0).int then ob false
 else bif !(writesOk (gd (x17.rows.getD x11.int.toNat []) 1)) then ob false
 else (let o2:=iter (s_l13HeldsOkL2 N p) N [x0,x1,x2,x3,x4,x5,x6,x7,x8,x9,x10,x11,.b (ltI x11.int (x17.rows.length:Int)),.i 0,.b (!(writesOk (gd (x17.rows.getD x11.int.toNat []) 1))),.i 0,x12,x13,x14,x15,x16,x17,x18,x19,x20,gd (x17.rows.getD x11.int.toNat []) 0,gd (x17.rows.getD x11.int.toNat []) 1]
  nd o2.isSome (bif o2.code==1 then some (1,o2.pay)
  else nd (o2.code==4) (bif hasInt (gd o2.pay 22) (gd o2.pay 25).int then ob false
  else bif hasInt (gd o2.pay 23) (gd o2.pay 25).int then ob false
  else nx [gd o2.pay 0,gd o2.pay 1,gd o2.pay 2,gd o2.pay 3,gd o2.pay 4,gd o2.pay 5,gd o2.pay 6,gd o2.pay 7,gd o2.pay 8,gd o2.pay 9,gd o2.pay 10,.i (w64 ((gd o2.pay 11).int+1)),gd o2.pay 16,gd o2.pay 17,gd o2.pay 18,gd o2.pay 19,gd o2.pay 20,gd o2.pay 21,gd o2.pay 22,gd o2.pay 23,gd o2.pay 24]))))
 else bif !(writesOk (gd (x17.rows.getD x11.int.toNat []) 1)) then ob false
 else (let o2:=iter (s_l13HeldsOkL2 N p) N [x0,x1,x2,x3,x4,x5,x6,x7,x8,x9,x10,x11,.b (ltI x11.int (x17.rows.length:Int)),.i 0,.b (!(writesOk (gd (x17.rows.getD x11.int.toNat []) 1))),.i 0,x12,x13,x14,x15,x16,x17,x18,x19,x20,gd (x17.rows.getD x11.int.toNat []) 0,gd (x17.rows.getD x11.int.toNat []) 1]
  nd o2.isSome (bif o2.code==1 then some (1,o2.pay)
  else nd (o2.code==4) (bif hasInt (gd o2.pay 22) (gd o2.pay 25).int then ob false
  else bif hasInt (gd o2.pay 23) (gd o2.pay 25).int then ob false
  else nx [gd o2.pay 0,gd o2.pay 1,gd o2.pay 2,gd o2.pay 3,gd o2.pay 4,gd o2.pay 5,gd o2.pay 6,gd o2.pay 7,gd o2.pay 8,gd o2.pay 9,gd o2.pay 10,.i (w64 ((gd o2.pay 11).int+1)),gd o2.pay 16,gd o2.pay 17,gd o2.pay 18,gd o2.pay 19,gd o2.pay 20,gd o2.pay 21,gd o2.pay 22,gd o2.pay 23,gd o2.pay 24]))))
 else ex 0 [x0,x1,x2,x3,x4,x5,x6,x7,x8,x9,x10,x11,x12,x13,x14,x15,x16,x17,x18,x19,x20]:=by kernel_rfl
theorem s_l13HeldsOkR2 (N:Nat) (p:List D) (x0 x1 x2 x3 x4 x5 x6 x7 x8 x9 x10 x11 x12 x13 x14 x15 x16 x17 x18 x19 x20 x21 x22 x23 x24 x25 x26:D):(s_l13HeldsOkL2 N p) [x0,x1,x2,x3,x4,x5,x6,x7,x8,x9,x10,x11,x12,x13,x14,x15,x16,x17,x18,x19,x20,x21,x22,x23,x24,x25,x26] =
 bif ltI x15.int (x26.rows.length:Int) then nd (inRange x15.int x26.rows.length) (bif !(holds x20 x25 [(gd (x26.rows.getD x15.int.toNat []) 0),.i (w64 ((gd (x26.rows.getD x15.int.toNat []) 0).int+1))] (.i 2)) then ob false
 else nx [x0,x1,x2,x3,x4,x5,x6,x7,x8,x9,x10,x11,x12,x13,x14,.i (w64 (x15.int+1)),x16,x17,x18,x19,x20,x21,x22,x23,x24,x25,x26])
 else ex 2 [x0,x1,x2,x3,x4,x5,x6,x7,x8,x9,x10,x11,x12,x13,x14,x15,x16,x17,x18,x19,x20,x21,x22,x23,x24,x25,x26]:=by kernel_rfl
theorem s_l13HeldsOk_ev (N:Nat) (p:List D):evFn Tryz.prog s_l13HeldsOkT N s_l13HeldsOkK Tryz.f137 rb [⟨ag rIShard,p⟩]=some (bo,
 (let o0:=iter (s_l13HeldsOkL0 N p) N [gd p 0,gd p 1,gd p 2,gd p 3,gd p 4,gd p 5,gd p 6,gd p 7,gd p 8,.i 0,.i 0,.i 0,gd p 0,gd p 1,gd p 2,gd p 3,gd p 4,gd p 5,gd p 6,gd p 7,gd p 8]
  nd o0.isSome (bif o0.code==1 then some (1,o0.pay)
  else nd (o0.code==2) (ob true)))):=by kernel_rfl
def heldRest (p:List D) (k:Nat):Bool:=writesOk (gd ((gd p 5).rows.getD k []) 1)&&((List.range (gd ((gd p 5).rows.getD k []) 1).rows.length).all (fun j=>holds (gd p 4) (gd ((gd p 5).rows.getD k []) 0) (oneAt ((gd ((gd p 5).rows.getD k []) 1).rows.getD j [])) (.i 2))&&(!hasInt (gd p 6) (gd ((gd p 5).rows.getD k []) 0).int && !hasInt (gd p 7) (gd ((gd p 5).rows.getD k []) 0).int))
def heldAtS (p:List D):Nat→Bool
 | 0=>inB (gd ((gd p 5).rows.getD 0 []) 0).int 1 60&&heldRest p 0
 | k+1=>inB (gd ((gd p 5).rows.getD (k+1) []) 0).int 1 60&&(!leI (gd ((gd p 5).rows.getD (k+1) []) 0).int (gd ((gd p 5).rows.getD k []) 0).int&&heldRest p (k+1))
def heldsOkS (p:List D):Bool:=(List.range (gd p 5).rows.length).all (heldAtS p)
theorem writes_len {z:D} (h:writesOk z=true):z.rows.length≤60:=by
 simp only [writesOk,Bool.and_eq_true,decide_eq_true_eq] at h
 omega
theorem heldsU (p:List D) (N:Nat) (hN:61≤N) (x12 x14:D) (k:Nat) (hwo:writesOk (gd ((gd p 5).rows.getD k []) 1)=true) :
  iter (s_l13HeldsOkL2 N p) N [gd p 0,gd p 1,gd p 2,gd p 3,gd p 4,gd p 5,gd p 6,gd p 7,gd p 8,.i 0,.i 0,.i (k:Int),x12,.i 0,x14,.i 0,gd p 0,gd p 1,gd p 2,gd p 3,gd p 4,gd p 5,gd p 6,gd p 7,gd p 8,gd ((gd p 5).rows.getD k []) 0,gd ((gd p 5).rows.getD k []) 1] =
  some (bif (List.range (gd ((gd p 5).rows.getD k []) 1).rows.length).all (fun j=>holds (gd p 4) (gd ((gd p 5).rows.getD k []) 0) (oneAt ((gd ((gd p 5).rows.getD k []) 1).rows.getD j [])) (.i 2)) then (4,[gd p 0,gd p 1,gd p 2,gd p 3,gd p 4,gd p 5,gd p 6,gd p 7,gd p 8,.i 0,.i 0,.i (k:Int),x12,.i 0,x14,.i ((gd ((gd p 5).rows.getD k []) 1).rows.length:Int),gd p 0,gd p 1,gd p 2,gd p 3,gd p 4,gd p 5,gd p 6,gd p 7,gd p 8,gd ((gd p 5).rows.getD k []) 0,gd ((gd p 5).rows.getD k []) 1]) else (1,[.b false])):=by
 have hlw:=writes_len hwo
 have e:=for_loop (L:=s_l13HeldsOkL2 N p) (fun j => [gd p 0,gd p 1,gd p 2,gd p 3,gd p 4,gd p 5,gd p 6,gd p 7,gd p 8,.i 0,.i 0,.i (k:Int),x12,.i 0,x14,.i (j:Int),gd p 0,gd p 1,gd p 2,gd p 3,gd p 4,gd p 5,gd p 6,gd p 7,gd p 8,gd ((gd p 5).rows.getD k []) 0,gd ((gd p 5).rows.getD k []) 1]) (gd ((gd p 5).rows.getD k []) 1).rows.length (fun j=>holds (gd p 4) (gd ((gd p 5).rows.getD k []) 0) (oneAt ((gd ((gd p 5).rows.getD k []) 1).rows.getD j [])) (.i 2)) [.b false] 2 (fun j hj=>?_) ?_ (N:=N) (by omega)
 ·simp only [Int.natCast_zero] at e
  exact e
 ·show s_l13HeldsOkL2 N p [_,_,_,_,_,_,_,_,_,_,_,_,_,_,_,.i (j:Int),_,_,_,_,_,_,_,_,_,_,_]=_
  rw [s_l13HeldsOkR2]
  simp only [int_i,c_lt hj,nd_ix hj,w64_succ hj (show (gd ((gd p 5).rows.getD k []) 1).rows.length≤9223372036854775807 from by omega),Int.toNat_natCast]
  rw [show holds (gd p 4) (gd ((gd p 5).rows.getD k []) 0) [gd ((gd ((gd p 5).rows.getD k []) 1).rows.getD j []) 0,.i (w64 ((gd ((gd ((gd p 5).rows.getD k []) 1).rows.getD j []) 0).int+1))] (.i 2)=holds (gd p 4) (gd ((gd p 5).rows.getD k []) 0) (oneAt ((gd ((gd p 5).rows.getD k []) 1).rows.getD j [])) (.i 2) from rfl]
  cases holds (gd p 4) (gd ((gd p 5).rows.getD k []) 0) (oneAt ((gd ((gd p 5).rows.getD k []) 1).rows.getD j [])) (.i 2) <;> rfl
 ·show s_l13HeldsOkL2 N p [_,_,_,_,_,_,_,_,_,_,_,_,_,_,_,.i ((gd ((gd p 5).rows.getD k []) 1).rows.length:Int),_,_,_,_,_,_,_,_,_,_,_]=_
  rw [s_l13HeldsOkR2]
  simp only [int_i,c_nlt]
def s_l13HeldsOkE:Ent:=(137,e1 (ag rIShard) fun p=>(⟨rb,[.b (heldsOkS p)]⟩,true))
theorem s_l13HeldsOk_ok:EntOk Tryz.prog s_l13HeldsOkE:=e1_ok fun p h=>evFn_sound (N:=(gd p 5).rows.length+61) (ks:=s_l13HeldsOkK) (key:=bo) s_l13HeldsOkT_ok (enters Tryz.func137) Tryz.func137 fun hw=>by
 rw [s_l13HeldsOk_ev]
 have hl:=wt_at (hw ⟨ag rIShard,p⟩ (by simp)) (j:=5) rfl
 have e:=for_loop (L:=s_l13HeldsOkL0 ((gd p 5).rows.length+61) p) (fun k => [gd p 0,gd p 1,gd p 2,gd p 3,gd p 4,gd p 5,gd p 6,gd p 7,gd p 8,.i 0,.i 0,.i (k:Int),gd p 0,gd p 1,gd p 2,gd p 3,gd p 4,gd p 5,gd p 6,gd p 7,gd p 8]) (gd p 5).rows.length (heldAtS p) [.b false] 0 (fun k hk=>?_) ?_ (N:=(gd p 5).rows.length+61) (by omega)
 ·simp only [Int.natCast_zero] at e
  rw [e]
  unfold heldsOkS
  cases (List.range (gd p 5).rows.length).all (heldAtS p) <;> rfl
 ·cases k with
  | zero =>
   show s_l13HeldsOkL0 _ p [_,_,_,_,_,_,_,_,_,_,_,.i ((0:Nat):Int),_,_,_,_,_,_,_,_,_]=_
   rw [s_l13HeldsOkR0]
   simp only [int_i,ltI_nat hk,cond_true,nd_ix hk,Int.toNat_natCast,ltI_00,cond_false,heldAtS,heldRest]
   cases inB (gd ((gd p 5).rows.getD 0 []) 0).int 1 60 <;> try rfl
   cases hwo:writesOk (gd ((gd p 5).rows.getD 0 []) 1) <;> try rfl
   simp only [Bool.not_true,cond_false,heldsU p _ (show 61≤(gd p 5).rows.length+61 from by omega) _ _ 0 hwo]
   cases (List.range (gd ((gd p 5).rows.getD 0 []) 1).rows.length).all (fun j=>holds (gd p 4) (gd ((gd p 5).rows.getD 0 []) 0) (oneAt ((gd ((gd p 5).rows.getD 0 []) 1).rows.getD j [])) (.i 2)) <;> try rfl
   simp only [nd,cond_true,cond_false,Option.isSome_some,Out.code,Out.pay,Option.getD_some,gd_cons_zero,gd_cons_succ,Nat.reduceBEq,Nat.reduceAdd,int_i,bool_b,str_s,rows_l,Bool.not_true,Bool.not_false,beq_self_eq_true,w64_succ hk hl]
   cases hasInt (gd p 6) (gd ((gd p 5).rows.getD 0 []) 0).int <;> cases hasInt (gd p 7) (gd ((gd p 5).rows.getD 0 []) 0).int <;> rfl
  | succ k =>
   show s_l13HeldsOkL0 _ p [_,_,_,_,_,_,_,_,_,_,_,.i ((k+1:Nat):Int),_,_,_,_,_,_,_,_,_]=_
   rw [s_l13HeldsOkR0]
   simp only [int_i,ltI_nat hk,cond_true,nd_ix hk,Int.toNat_natCast,ltI_0s,w64_pred (show k+1≤9223372036854775807 from by omega),nd_ix (Nat.lt_of_succ_lt hk),heldAtS,heldRest]
   cases inB (gd ((gd p 5).rows.getD (k+1) []) 0).int 1 60 <;> try rfl
   cases leI (gd ((gd p 5).rows.getD (k+1) []) 0).int (gd ((gd p 5).rows.getD k []) 0).int <;> try rfl
   cases hwo:writesOk (gd ((gd p 5).rows.getD (k+1) []) 1) <;> try rfl
   simp only [Bool.not_true,cond_false,heldsU p _ (show 61≤(gd p 5).rows.length+61 from by omega) _ _ (k+1) hwo]
   cases (List.range (gd ((gd p 5).rows.getD (k+1) []) 1).rows.length).all (fun j=>holds (gd p 4) (gd ((gd p 5).rows.getD (k+1) []) 0) (oneAt ((gd ((gd p 5).rows.getD (k+1) []) 1).rows.getD j [])) (.i 2)) <;> try rfl
   simp only [nd,cond_true,cond_false,Option.isSome_some,Out.code,Out.pay,Option.getD_some,gd_cons_zero,gd_cons_succ,Nat.reduceBEq,Nat.reduceAdd,int_i,bool_b,str_s,rows_l,Bool.not_true,Bool.not_false,beq_self_eq_true,w64_succ hk hl]
   cases hasInt (gd p 6) (gd ((gd p 5).rows.getD (k+1) []) 0).int <;> cases hasInt (gd p 7) (gd ((gd p 5).rows.getD (k+1) []) 0).int <;> rfl
 ·show s_l13HeldsOkL0 _ p [_,_,_,_,_,_,_,_,_,_,_,.i ((gd p 5).rows.length:Int),_,_,_,_,_,_,_,_,_]=_
  rw [s_l13HeldsOkR0]
  simp only [int_i,c_nlt]
end Go.Proofs.YtchceahcaaibcaaGreat
namespace Go.Proofs.YtchceahcaaibcaaGreat
set_option maxRecDepth 4096
set_option maxHeartbeats 1000000
abbrev i_LetterOkT:FuncId→List T→Option (T × Bool):=find [i_letterHasE,i_numRightE,i_hasE,i_RangeOkE,i_readsOkE,i_WritesOkE,i_StoreOkE,i_SharesOkE,i_votesE]
theorem i_LetterOkT_ok:CallOk Tryz.prog i_LetterOkT:=find_ok (fC ⟨i_letterHas_ok,fC ⟨i_numRight_ok,fC ⟨i_has_ok,fC ⟨i_RangeOk_ok,fC ⟨i_readsOk_ok,fC ⟨i_WritesOk_ok,fC ⟨i_StoreOk_ok,fC ⟨i_SharesOk_ok,fC ⟨i_votes_ok,fN⟩⟩⟩⟩⟩⟩⟩⟩⟩)
abbrev i_LetterOkK:List Nat:= [0,1,2,3,50,85]
noncomputable def i_LetterOks0 (N:Nat) (p:List D):Out:=bif ((gd p 13).rows.length:Int)==0 then bif !(votesAny (gd p 13) 1) then ob (!(votesAny (gd p 13) 2)) else ob false else ob false
noncomputable def i_LetterOks1 (N:Nat) (p:List D):Out:=bif hasB (i_letterHasF [(gd p 0)]) 83 then bif !(votesAny (gd p 13) 1) then ob (!(votesAny (gd p 13) 2)) else ob false else (i_LetterOks0 N p)
noncomputable def i_LetterOks2 (N:Nat) (p:List D):Out:=bif sharesOk (gd p 13) then nd (leI ((i_letterHasF [(gd p 0)]).length:Int) 100) (i_LetterOks1 N p) else ob false
noncomputable def i_LetterOks3 (N:Nat) (p:List D):Out:=bif hasB (i_letterHasF [(gd p 0)]) 108 then (i_LetterOks2 N p) else bif ((gd p 12).rows.length:Int)==0 then (i_LetterOks2 N p) else ob false
noncomputable def i_LetterOks4 (N:Nat) (p:List D):Out:=bif storeOk (gd p 12) then nd (leI ((i_letterHasF [(gd p 0)]).length:Int) 100) (i_LetterOks3 N p) else ob false
noncomputable def i_LetterOks5 (N:Nat) (p:List D):Out:=bif hasB (i_letterHasF [(gd p 0)]) 87 then (i_LetterOks4 N p) else bif ((gd p 11).rows.length:Int)==0 then (i_LetterOks4 N p) else ob false
noncomputable def i_LetterOks6 (N:Nat) (p:List D):Out:=bif writesOk (gd p 11) then nd (leI ((i_letterHasF [(gd p 0)]).length:Int) 100) (i_LetterOks5 N p) else ob false
noncomputable def i_LetterOks7 (N:Nat) (p:List D):Out:=bif hasB (i_letterHasF [(gd p 0)]) 101 then (i_LetterOks6 N p) else bif ((gd p 10).rows.length:Int)==0 then (i_LetterOks6 N p) else ob false
noncomputable def i_LetterOks8 (N:Nat) (p:List D):Out:=bif readsOk (gd p 10) then nd (leI ((i_letterHasF [(gd p 0)]).length:Int) 100) (i_LetterOks7 N p) else ob false
noncomputable def i_LetterOks9 (N:Nat) (p:List D):Out:=bif !(hasB (i_letterHasF [(gd p 0)]) 89) then bif (gd p 9).bool then ob false else (i_LetterOks8 N p) else (i_LetterOks8 N p)
noncomputable def i_LetterOks10 (N:Nat) (p:List D):Out:=bif (gd p 6).int != 0 then ob false else nd (leI ((i_letterHasF [(gd p 0)]).length:Int) 100) (i_LetterOks9 N p)
noncomputable def i_LetterOks11 (N:Nat) (p:List D):Out:=bif !(hasB (i_letterHasF [(gd p 0)]) 107) then bif (gd p 5).int != 0 then ob false else (i_LetterOks10 N p) else nd (leI ((i_letterHasF [(gd p 0)]).length:Int) 100) (i_LetterOks9 N p)
noncomputable def i_LetterOks12 (N:Nat) (p:List D):Out:=bif !(rangeOk (sub p 5 2)) then ob false else nd (leI ((i_letterHasF [(gd p 0)]).length:Int) 100) (i_LetterOks11 N p)
noncomputable def i_LetterOks13 (N:Nat) (p:List D):Out:=bif hasB (i_letterHasF [(gd p 0)]) 107 then (i_LetterOks12 N p) else nd (leI ((i_letterHasF [(gd p 0)]).length:Int) 100) (i_LetterOks11 N p)
noncomputable def i_LetterOks14 (N:Nat) (p:List D):Out:=bif !(numOk (hasB (i_letterHasF [(gd p 0)]) 99) (gd p 8).int 0 7) then ob false else nd (leI ((i_letterHasF [(gd p 0)]).length:Int) 100) (i_LetterOks13 N p)
noncomputable def i_LetterOks15 (N:Nat) (p:List D):Out:=bif !(numOk (hasB (i_letterHasF [(gd p 0)]) 78) (gd p 7).int 1 1000000) then ob false else nd (leI ((i_letterHasF [(gd p 0)]).length:Int) 100) (i_LetterOks14 N p)
noncomputable def i_LetterOks16 (N:Nat) (p:List D):Out:=bif !(numOk (hasB (i_letterHasF [(gd p 0)]) 84) (gd p 4).int 1 60) then ob false else nd (leI ((i_letterHasF [(gd p 0)]).length:Int) 100) (i_LetterOks15 N p)
noncomputable def i_LetterOks17 (N:Nat) (p:List D):Out:=bif !(numOk (hasB (i_letterHasF [(gd p 0)]) 82) (gd p 3).int 1 1000000000) then ob false else nd (leI ((i_letterHasF [(gd p 0)]).length:Int) 100) (i_LetterOks16 N p)
noncomputable def i_LetterOks18 (N:Nat) (p:List D):Out:=bif !(numOk (hasB (i_letterHasF [(gd p 0)]) 67) (gd p 2).int 0 5) then ob false else nd (leI ((i_letterHasF [(gd p 0)]).length:Int) 100) (i_LetterOks17 N p)
noncomputable def i_LetterOks19 (N:Nat) (p:List D):Out:=bif !(numOk (hasB (i_letterHasF [(gd p 0)]) 71) (gd p 1).int 0 3) then ob false else nd (leI ((i_letterHasF [(gd p 0)]).length:Int) 100) (i_LetterOks18 N p)
noncomputable def i_LetterOks20 (N:Nat) (p:List D):Out:=bif (i_letterHasF [(gd p 0)]) == [] then ob false else nd (leI ((i_letterHasF [(gd p 0)]).length:Int) 100) (i_LetterOks19 N p)
theorem i_LetterOk_ev (N:Nat) (p:List D):evFn Tryz.prog i_LetterOkT N i_LetterOkK Tryz.f71 rb [⟨ag rILetter,p⟩]=some (bo,(i_LetterOks20 N p)):=by kernel_rfl
def formI (k:Int):List UInt8:=i_letterHasF [.i k]
theorem letters_same (k:Int):((lettersS k).str == [])=(formI k == [])∧hasB (lettersS k).str 103=hasB (formI k) 71∧hasB (lettersS k).str 99=hasB (formI k) 67∧hasB (lettersS k).str 113=hasB (formI k) 82∧hasB (lettersS k).str 116=hasB (formI k) 84∧hasB (lettersS k).str 110=hasB (formI k) 78∧hasB (lettersS k).str 107=hasB (formI k) 99∧hasB (lettersS k).str 121=hasB (formI k) 89∧hasB (lettersS k).str 114=hasB (formI k) 107∧hasB (lettersS k).str 82=hasB (formI k) 101∧hasB (lettersS k).str 87=hasB (formI k) 87∧hasB (lettersS k).str 67=hasB (formI k) 108∧hasB (lettersS k).str 83=hasB (formI k) 83:=by
 by_cases h:1≤k∧k≤17
 ·have h17:k=1∨k=2∨k=3∨k=4∨k=5∨k=6∨k=7∨k=8∨k=9∨k=10∨k=11∨k=12∨k=13∨k=14∨k=15∨k=16∨k=17:=by omega
  rcases h17 with rfl | rfl | rfl | rfl | rfl | rfl | rfl | rfl | rfl | rfl | rfl | rfl | rfl | rfl | rfl | rfl | rfl <;> decide +kernel
 ·have h1:lettersS k=.s []:=by
   unfold lettersS
   rw [show inB k 1 17=false from by
    simp only [inB,Bool.and_eq_false_iff,decide_eq_false_iff_not]; omega]
   rfl
  have h2:formI k = []:=by
   have hn:∀ j:Int,1≤j→j≤17→(k==j)=false:=fun j a b=>beq_eq_false_iff_ne.2 (by omega)
   show i_letterHasF [.i k] = []
   unfold i_letterHasF
   simp only [gd_cons_zero,int_i,hn 1 (by omega) (by omega),hn 2 (by omega) (by omega),hn 3 (by omega) (by omega),hn 4 (by omega) (by omega),hn 5 (by omega) (by omega),hn 6 (by omega) (by omega),hn 7 (by omega) (by omega),hn 8 (by omega) (by omega),hn 9 (by omega) (by omega),hn 10 (by omega) (by omega),hn 11 (by omega) (by omega),hn 12 (by omega) (by omega),hn 13 (by omega) (by omega),hn 14 (by omega) (by omega),hn 15 (by omega) (by omega),hn 16 (by omega) (by omega),hn 17 (by omega) (by omega),cond_false]
  rw [h1,h2]
  exact ⟨rfl,rfl,rfl,rfl,rfl,rfl,rfl,rfl,rfl,rfl,rfl,rfl,rfl⟩
theorem form_len (k:Int):leI ((formI k).length:Int) 100=true:=by
 by_cases h:1≤k∧k≤17
 ·have h17:k=1∨k=2∨k=3∨k=4∨k=5∨k=6∨k=7∨k=8∨k=9∨k=10∨k=11∨k=12∨k=13∨k=14∨k=15∨k=16∨k=17:=by omega
  rcases h17 with rfl | rfl | rfl | rfl | rfl | rfl | rfl | rfl | rfl | rfl | rfl | rfl | rfl | rfl | rfl | rfl | rfl <;> rfl
 ·have h2:(formI k == [])=true:=by
   rw [← (letters_same k).1]
   unfold lettersS
   rw [show inB k 1 17=false from by
    simp only [inB,Bool.and_eq_false_iff,decide_eq_false_iff_not]; omega]
   rfl
  rw [eq_of_beq h2]; rfl
theorem letters_len (k:Int):leI ((lettersS k).str.length:Int) 100=true:=by
 by_cases h:1≤k∧k≤17
 ·have h17:k=1∨k=2∨k=3∨k=4∨k=5∨k=6∨k=7∨k=8∨k=9∨k=10∨k=11∨k=12∨k=13∨k=14∨k=15∨k=16∨k=17:=by omega
  rcases h17 with rfl | rfl | rfl | rfl | rfl | rfl | rfl | rfl | rfl | rfl | rfl | rfl | rfl | rfl | rfl | rfl | rfl <;> rfl
 ·unfold lettersS
  rw [show inB k 1 17=false from by
   simp only [inB,Bool.and_eq_false_iff,decide_eq_false_iff_not]; omega]
  rfl
def letterF (p:List D) (f:List UInt8):Bool:= !(f == [])&&(numOk (hasB f 71) (gd p 1).int 0 3&&(numOk (hasB f 67) (gd p 2).int 0 5&&(numOk (hasB f 82) (gd p 3).int 1 1000000000&&(numOk (hasB f 84) (gd p 4).int 1 60&&(numOk (hasB f 78) (gd p 7).int 1 1000000&&(numOk (hasB f 99) (gd p 8).int 0 7&&((bif hasB f 107 then rangeOk [gd p 5,gd p 6] else ((gd p 5).int==0)&&((gd p 6).int==0))&&((hasB f 89 || !(gd p 9).bool)&&(readsOk (gd p 10)&&((hasB f 101||(((gd p 10).rows.length:Int)==0))&&(writesOk (gd p 11)&&((hasB f 87||(((gd p 11).rows.length:Int)==0))&&(storeOk (gd p 12)&&((hasB f 108||(((gd p 12).rows.length:Int)==0))&&(sharesOk (gd p 13)&&((hasB f 83||(((gd p 13).rows.length:Int)==0))&&((!votesAny (gd p 13) 1 && !votesAny (gd p 13) 2))))))))))))))))))
def letterOk (p:List D):Bool:=letterF p (formI (gd p 0).int)
def i_LetterOkg0 (p:List D):Bool:=(((gd p 13).rows.length:Int)==0)&&(!votesAny (gd p 13) 1 && !votesAny (gd p 13) 2)
theorem i_LetterOkx0 (p:List D):i_LetterOks0 0 p=ob (i_LetterOkg0 p):=by
 unfold i_LetterOks0 i_LetterOkg0
 try simp only [show i_letterHasF [gd p 0]=formI (gd p 0).int from rfl,form_len (gd p 0).int,nd_true,bne_not,show rangeOk (sub p 5 2)=rangeOk [gd p 5,gd p 6] from rfl]
 generalize (((gd p 13).rows.length:Int)==0)=b0
 generalize votesAny (gd p 13) 1=b1
 generalize votesAny (gd p 13) 2=b2
 cases b0 <;> cases b1 <;> cases b2 <;> rfl
def i_LetterOkg1 (p:List D):Bool:=(hasB (formI (gd p 0).int) 83||(((gd p 13).rows.length:Int)==0))&&(!votesAny (gd p 13) 1 && !votesAny (gd p 13) 2)
theorem i_LetterOkx1 (p:List D):i_LetterOks1 0 p=ob (i_LetterOkg1 p):=by
 unfold i_LetterOks1 i_LetterOkg1
 rw [i_LetterOkx0]
 unfold i_LetterOkg0
 try simp only [show i_letterHasF [gd p 0]=formI (gd p 0).int from rfl,form_len (gd p 0).int,nd_true,bne_not,show rangeOk (sub p 5 2)=rangeOk [gd p 5,gd p 6] from rfl]
 generalize hasB (formI (gd p 0).int) 83=b0
 generalize (((gd p 13).rows.length:Int)==0)=b1
 generalize votesAny (gd p 13) 1=b2
 generalize votesAny (gd p 13) 2=b3
 cases b0 <;> cases b1 <;> cases b2 <;> cases b3 <;> rfl
def i_LetterOkg2 (p:List D):Bool:=sharesOk (gd p 13)&&i_LetterOkg1 p
theorem i_LetterOkx2 (p:List D):i_LetterOks2 0 p=ob (i_LetterOkg2 p):=by
 unfold i_LetterOks2 i_LetterOkg2
 try rw [i_LetterOkx1 p]
 generalize i_LetterOkg1 p=y
 try simp only [show i_letterHasF [gd p 0]=formI (gd p 0).int from rfl,form_len (gd p 0).int,nd_true,bne_not,show rangeOk (sub p 5 2)=rangeOk [gd p 5,gd p 6] from rfl]
 generalize sharesOk (gd p 13)=b0
 cases b0 <;> rfl
def i_LetterOkg3 (p:List D):Bool:=(hasB (formI (gd p 0).int) 108||(((gd p 12).rows.length:Int)==0))&&i_LetterOkg2 p
theorem i_LetterOkx3 (p:List D):i_LetterOks3 0 p=ob (i_LetterOkg3 p):=by
 unfold i_LetterOks3 i_LetterOkg3
 try rw [i_LetterOkx2 p]
 generalize i_LetterOkg2 p=y
 try simp only [show i_letterHasF [gd p 0]=formI (gd p 0).int from rfl,form_len (gd p 0).int,nd_true,bne_not,show rangeOk (sub p 5 2)=rangeOk [gd p 5,gd p 6] from rfl]
 generalize hasB (formI (gd p 0).int) 108=b0
 generalize (((gd p 12).rows.length:Int)==0)=b1
 cases b0 <;> cases b1 <;> rfl
def i_LetterOkg4 (p:List D):Bool:=storeOk (gd p 12)&&i_LetterOkg3 p
theorem i_LetterOkx4 (p:List D):i_LetterOks4 0 p=ob (i_LetterOkg4 p):=by
 unfold i_LetterOks4 i_LetterOkg4
 try rw [i_LetterOkx3 p]
 generalize i_LetterOkg3 p=y
 try simp only [show i_letterHasF [gd p 0]=formI (gd p 0).int from rfl,form_len (gd p 0).int,nd_true,bne_not,show rangeOk (sub p 5 2)=rangeOk [gd p 5,gd p 6] from rfl]
 generalize storeOk (gd p 12)=b0
 cases b0 <;> rfl
def i_LetterOkg5 (p:List D):Bool:=(hasB (formI (gd p 0).int) 87||(((gd p 11).rows.length:Int)==0))&&i_LetterOkg4 p
theorem i_LetterOkx5 (p:List D):i_LetterOks5 0 p=ob (i_LetterOkg5 p):=by
 unfold i_LetterOks5 i_LetterOkg5
 try rw [i_LetterOkx4 p]
 generalize i_LetterOkg4 p=y
 try simp only [show i_letterHasF [gd p 0]=formI (gd p 0).int from rfl,form_len (gd p 0).int,nd_true,bne_not,show rangeOk (sub p 5 2)=rangeOk [gd p 5,gd p 6] from rfl]
 generalize hasB (formI (gd p 0).int) 87=b0
 generalize (((gd p 11).rows.length:Int)==0)=b1
 cases b0 <;> cases b1 <;> rfl
def i_LetterOkg6 (p:List D):Bool:=writesOk (gd p 11)&&i_LetterOkg5 p
theorem i_LetterOkx6 (p:List D):i_LetterOks6 0 p=ob (i_LetterOkg6 p):=by
 unfold i_LetterOks6 i_LetterOkg6
 try rw [i_LetterOkx5 p]
 generalize i_LetterOkg5 p=y
 try simp only [show i_letterHasF [gd p 0]=formI (gd p 0).int from rfl,form_len (gd p 0).int,nd_true,bne_not,show rangeOk (sub p 5 2)=rangeOk [gd p 5,gd p 6] from rfl]
 generalize writesOk (gd p 11)=b0
 cases b0 <;> rfl
def i_LetterOkg7 (p:List D):Bool:=(hasB (formI (gd p 0).int) 101||(((gd p 10).rows.length:Int)==0))&&i_LetterOkg6 p
theorem i_LetterOkx7 (p:List D):i_LetterOks7 0 p=ob (i_LetterOkg7 p):=by
 unfold i_LetterOks7 i_LetterOkg7
 try rw [i_LetterOkx6 p]
 generalize i_LetterOkg6 p=y
 try simp only [show i_letterHasF [gd p 0]=formI (gd p 0).int from rfl,form_len (gd p 0).int,nd_true,bne_not,show rangeOk (sub p 5 2)=rangeOk [gd p 5,gd p 6] from rfl]
 generalize hasB (formI (gd p 0).int) 101=b0
 generalize (((gd p 10).rows.length:Int)==0)=b1
 cases b0 <;> cases b1 <;> rfl
def i_LetterOkg8 (p:List D):Bool:=readsOk (gd p 10)&&i_LetterOkg7 p
theorem i_LetterOkx8 (p:List D):i_LetterOks8 0 p=ob (i_LetterOkg8 p):=by
 unfold i_LetterOks8 i_LetterOkg8
 try rw [i_LetterOkx7 p]
 generalize i_LetterOkg7 p=y
 try simp only [show i_letterHasF [gd p 0]=formI (gd p 0).int from rfl,form_len (gd p 0).int,nd_true,bne_not,show rangeOk (sub p 5 2)=rangeOk [gd p 5,gd p 6] from rfl]
 generalize readsOk (gd p 10)=b0
 cases b0 <;> rfl
def i_LetterOkg9 (p:List D):Bool:=(hasB (formI (gd p 0).int) 89 || !(gd p 9).bool)&&i_LetterOkg8 p
theorem i_LetterOkx9 (p:List D):i_LetterOks9 0 p=ob (i_LetterOkg9 p):=by
 unfold i_LetterOks9 i_LetterOkg9
 try rw [i_LetterOkx8 p]
 generalize i_LetterOkg8 p=y
 try simp only [show i_letterHasF [gd p 0]=formI (gd p 0).int from rfl,form_len (gd p 0).int,nd_true,bne_not,show rangeOk (sub p 5 2)=rangeOk [gd p 5,gd p 6] from rfl]
 generalize hasB (formI (gd p 0).int) 89=b0
 generalize (gd p 9).bool=b1
 cases b0 <;> cases b1 <;> rfl
def i_LetterOkg10 (p:List D):Bool:=((gd p 6).int==0)&&i_LetterOkg9 p
theorem i_LetterOkx10 (p:List D):i_LetterOks10 0 p=ob (i_LetterOkg10 p):=by
 unfold i_LetterOks10 i_LetterOkg10
 try rw [i_LetterOkx9 p]
 generalize i_LetterOkg9 p=y
 try simp only [show i_letterHasF [gd p 0]=formI (gd p 0).int from rfl,form_len (gd p 0).int,nd_true,bne_not,show rangeOk (sub p 5 2)=rangeOk [gd p 5,gd p 6] from rfl]
 generalize ((gd p 6).int==0)=b0
 cases b0 <;> rfl
def i_LetterOkg11 (p:List D):Bool:=(bif hasB (formI (gd p 0).int) 107 then true else ((gd p 5).int==0)&&((gd p 6).int==0))&&i_LetterOkg9 p
theorem i_LetterOkx11 (p:List D):i_LetterOks11 0 p=ob (i_LetterOkg11 p):=by
 unfold i_LetterOks11 i_LetterOkg11
 rw [i_LetterOkx10]
 unfold i_LetterOkg10
 try rw [i_LetterOkx9 p]
 generalize i_LetterOkg9 p=y
 try simp only [show i_letterHasF [gd p 0]=formI (gd p 0).int from rfl,form_len (gd p 0).int,nd_true,bne_not,show rangeOk (sub p 5 2)=rangeOk [gd p 5,gd p 6] from rfl]
 generalize hasB (formI (gd p 0).int) 107=b0
 generalize ((gd p 5).int==0)=b1
 generalize ((gd p 6).int==0)=b2
 cases b0 <;> cases b1 <;> cases b2 <;> rfl
def i_LetterOkg12 (p:List D):Bool:=rangeOk [gd p 5,gd p 6]&&((bif hasB (formI (gd p 0).int) 107 then true else ((gd p 5).int==0)&&((gd p 6).int==0))&&i_LetterOkg9 p)
theorem i_LetterOkx12 (p:List D):i_LetterOks12 0 p=ob (i_LetterOkg12 p):=by
 unfold i_LetterOks12 i_LetterOkg12
 rw [i_LetterOkx11]
 unfold i_LetterOkg11
 try rw [i_LetterOkx9 p]
 generalize i_LetterOkg9 p=y
 try simp only [show i_letterHasF [gd p 0]=formI (gd p 0).int from rfl,form_len (gd p 0).int,nd_true,bne_not,show rangeOk (sub p 5 2)=rangeOk [gd p 5,gd p 6] from rfl]
 generalize rangeOk [gd p 5,gd p 6]=b0
 generalize hasB (formI (gd p 0).int) 107=b1
 generalize ((gd p 5).int==0)=b2
 generalize ((gd p 6).int==0)=b3
 cases b0 <;> cases b1 <;> cases b2 <;> cases b3 <;> rfl
def i_LetterOkg13 (p:List D):Bool:=(bif hasB (formI (gd p 0).int) 107 then rangeOk [gd p 5,gd p 6] else ((gd p 5).int==0)&&((gd p 6).int==0))&&i_LetterOkg9 p
theorem i_LetterOkx13 (p:List D):i_LetterOks13 0 p=ob (i_LetterOkg13 p):=by
 unfold i_LetterOks13 i_LetterOkg13
 rw [i_LetterOkx12,i_LetterOkx11]
 unfold i_LetterOkg12 i_LetterOkg11
 try rw [i_LetterOkx9 p]
 generalize i_LetterOkg9 p=y
 try simp only [show i_letterHasF [gd p 0]=formI (gd p 0).int from rfl,form_len (gd p 0).int,nd_true,bne_not,show rangeOk (sub p 5 2)=rangeOk [gd p 5,gd p 6] from rfl]
 generalize rangeOk [gd p 5,gd p 6]=b0
 generalize hasB (formI (gd p 0).int) 107=b1
 generalize ((gd p 5).int==0)=b2
 generalize ((gd p 6).int==0)=b3
 cases b0 <;> cases b1 <;> cases b2 <;> cases b3 <;> rfl
def i_LetterOkg14 (p:List D):Bool:=numOk (hasB (formI (gd p 0).int) 99) (gd p 8).int 0 7&&i_LetterOkg13 p
theorem i_LetterOkx14 (p:List D):i_LetterOks14 0 p=ob (i_LetterOkg14 p):=by
 unfold i_LetterOks14 i_LetterOkg14
 try rw [i_LetterOkx13 p]
 generalize i_LetterOkg13 p=y
 try simp only [show i_letterHasF [gd p 0]=formI (gd p 0).int from rfl,form_len (gd p 0).int,nd_true,bne_not,show rangeOk (sub p 5 2)=rangeOk [gd p 5,gd p 6] from rfl]
 generalize numOk (hasB (formI (gd p 0).int) 99) (gd p 8).int 0 7=b0
 cases b0 <;> rfl
def i_LetterOkg15 (p:List D):Bool:=numOk (hasB (formI (gd p 0).int) 78) (gd p 7).int 1 1000000&&i_LetterOkg14 p
theorem i_LetterOkx15 (p:List D):i_LetterOks15 0 p=ob (i_LetterOkg15 p):=by
 unfold i_LetterOks15 i_LetterOkg15
 try rw [i_LetterOkx14 p]
 generalize i_LetterOkg14 p=y
 try simp only [show i_letterHasF [gd p 0]=formI (gd p 0).int from rfl,form_len (gd p 0).int,nd_true,bne_not,show rangeOk (sub p 5 2)=rangeOk [gd p 5,gd p 6] from rfl]
 generalize numOk (hasB (formI (gd p 0).int) 78) (gd p 7).int 1 1000000=b0
 cases b0 <;> rfl
def i_LetterOkg16 (p:List D):Bool:=numOk (hasB (formI (gd p 0).int) 84) (gd p 4).int 1 60&&i_LetterOkg15 p
theorem i_LetterOkx16 (p:List D):i_LetterOks16 0 p=ob (i_LetterOkg16 p):=by
 unfold i_LetterOks16 i_LetterOkg16
 try rw [i_LetterOkx15 p]
 generalize i_LetterOkg15 p=y
 try simp only [show i_letterHasF [gd p 0]=formI (gd p 0).int from rfl,form_len (gd p 0).int,nd_true,bne_not,show rangeOk (sub p 5 2)=rangeOk [gd p 5,gd p 6] from rfl]
 generalize numOk (hasB (formI (gd p 0).int) 84) (gd p 4).int 1 60=b0
 cases b0 <;> rfl
def i_LetterOkg17 (p:List D):Bool:=numOk (hasB (formI (gd p 0).int) 82) (gd p 3).int 1 1000000000&&i_LetterOkg16 p
theorem i_LetterOkx17 (p:List D):i_LetterOks17 0 p=ob (i_LetterOkg17 p):=by
 unfold i_LetterOks17 i_LetterOkg17
 try rw [i_LetterOkx16 p]
 generalize i_LetterOkg16 p=y
 try simp only [show i_letterHasF [gd p 0]=formI (gd p 0).int from rfl,form_len (gd p 0).int,nd_true,bne_not,show rangeOk (sub p 5 2)=rangeOk [gd p 5,gd p 6] from rfl]
 generalize numOk (hasB (formI (gd p 0).int) 82) (gd p 3).int 1 1000000000=b0
 cases b0 <;> rfl
def i_LetterOkg18 (p:List D):Bool:=numOk (hasB (formI (gd p 0).int) 67) (gd p 2).int 0 5&&i_LetterOkg17 p
theorem i_LetterOkx18 (p:List D):i_LetterOks18 0 p=ob (i_LetterOkg18 p):=by
 unfold i_LetterOks18 i_LetterOkg18
 try rw [i_LetterOkx17 p]
 generalize i_LetterOkg17 p=y
 try simp only [show i_letterHasF [gd p 0]=formI (gd p 0).int from rfl,form_len (gd p 0).int,nd_true,bne_not,show rangeOk (sub p 5 2)=rangeOk [gd p 5,gd p 6] from rfl]
 generalize numOk (hasB (formI (gd p 0).int) 67) (gd p 2).int 0 5=b0
 cases b0 <;> rfl
def i_LetterOkg19 (p:List D):Bool:=numOk (hasB (formI (gd p 0).int) 71) (gd p 1).int 0 3&&i_LetterOkg18 p
theorem i_LetterOkx19 (p:List D):i_LetterOks19 0 p=ob (i_LetterOkg19 p):=by
 unfold i_LetterOks19 i_LetterOkg19
 try rw [i_LetterOkx18 p]
 generalize i_LetterOkg18 p=y
 try simp only [show i_letterHasF [gd p 0]=formI (gd p 0).int from rfl,form_len (gd p 0).int,nd_true,bne_not,show rangeOk (sub p 5 2)=rangeOk [gd p 5,gd p 6] from rfl]
 generalize numOk (hasB (formI (gd p 0).int) 71) (gd p 1).int 0 3=b0
 cases b0 <;> rfl
def i_LetterOkg20 (p:List D):Bool:= !((formI (gd p 0).int) == [])&&i_LetterOkg19 p
theorem i_LetterOkx20 (p:List D):i_LetterOks20 0 p=ob (i_LetterOkg20 p):=by
 unfold i_LetterOks20 i_LetterOkg20
 try rw [i_LetterOkx19 p]
 generalize i_LetterOkg19 p=y
 try simp only [show i_letterHasF [gd p 0]=formI (gd p 0).int from rfl,form_len (gd p 0).int,nd_true,bne_not,show rangeOk (sub p 5 2)=rangeOk [gd p 5,gd p 6] from rfl]
 generalize ((formI (gd p 0).int) == [])=b0
 cases b0 <;> rfl
def i_LetterOkE:Ent:=(71,e1 (ag rILetter) fun p=>(⟨rb,[.b (letterOk p)]⟩,true))
theorem i_LetterOk_ok:EntOk Tryz.prog i_LetterOkE:=e1_ok fun p h=>evFn_sound (N:=0) (ks:=i_LetterOkK) (key:=bo) i_LetterOkT_ok (enters Tryz.func71) Tryz.func71 fun hw=>by
 rw [i_LetterOk_ev]
 exact congrArg (fun x=>some (bo,x)) ((i_LetterOkx20 p).trans rfl)
abbrev s_LetterOkT:FuncId→List T→Option (T × Bool):=find [s_l16HasE,s_l4InE,s_l4NumE,s_l16RangeOkE,s_WritesOkE,s_StoreOkE,s_SharesOkE,s_RangeOkE,s_l14VotesE]
theorem s_LetterOkT_ok:CallOk Tryz.prog s_LetterOkT:=find_ok (fC ⟨s_l16Has_ok,fC ⟨s_l4In_ok,fC ⟨s_l4Num_ok,fC ⟨s_l16RangeOk_ok,fC ⟨s_WritesOk_ok,fC ⟨s_StoreOk_ok,fC ⟨s_SharesOk_ok,fC ⟨s_RangeOk_ok,fC ⟨s_l14Votes_ok,fN⟩⟩⟩⟩⟩⟩⟩⟩⟩)
abbrev s_LetterOkK:List Nat:= [0,1,2,3,4,41,64,89,155,160,169,1000041,1000064,1000089,1000155,1000160,1000169,3000004,3000006,3000008]
noncomputable def s_LetterOkL0 (N:Nat) (p:List D):List D→Out:=loopOf Tryz.prog s_LetterOkT N s_LetterOkK Tryz.f52 rb [⟨ag rILetter,p⟩] 0
theorem s_LetterOkR0 (N:Nat) (p:List D) (x0 x1 x2 x3 x4 x5 x6 x7 x8 x9 x10 x11 x12 x13 x14 x15 x16 x17 x18 x19 x20 x21 x22 x23 x24 x25 x26 x27 x28 x29 x30 x31:D):(s_LetterOkL0 N p) [x0,x1,x2,x3,x4,x5,x6,x7,x8,x9,x10,x11,x12,x13,x14,x15,x16,x17,x18,x19,x20,x21,x22,x23,x24,x25,x26,x27,x28,x29,x30,x31] =
 bif ltI x17.int (x28.rows.length:Int) then nd (inRange x17.int x28.rows.length) (bif !(rangeOk (sub (x28.rows.getD x17.int.toNat []) 0 2)) then ob false
 else nx [x0,x1,x2,x3,x4,x5,x6,x7,x8,x9,x10,x11,x12,x13,x14,x15,x16,.i (w64 (x17.int+1)),x18,x19,x20,x21,x22,x23,x24,x25,x26,x27,x28,x29,x30,x31])
 else ex 0 [x0,x1,x2,x3,x4,x5,x6,x7,x8,x9,x10,x11,x12,x13,x14,x15,x16,x17,x18,x19,x20,x21,x22,x23,x24,x25,x26,x27,x28,x29,x30,x31]:=by kernel_rfl
noncomputable def s_LetterOks0 (N:Nat) (p:List D):Out:=nd (leI ((lettersS (gd p 0).int).str.length:Int) 100) (nx [gd p 0,gd p 1,gd p 2,gd p 3,gd p 4,gd p 5,gd p 6,gd p 7,gd p 8,gd p 9,gd p 10,gd p 11,gd p 12,gd p 13,.i 0,.b false,lettersS (gd p 0).int,.b (!(hasB (lettersS (gd p 0).int).str 121)),gd p 0,gd p 1,gd p 2,gd p 3,gd p 4,gd p 5,gd p 6,gd p 7,gd p 8,gd p 9,gd p 10,gd p 11,gd p 12,gd p 13])
noncomputable def s_LetterOks1 (N:Nat) (p:List D):Out:=bif (gd p 9).bool then (s_LetterOks0 N p) else nx [gd p 0,gd p 1,gd p 2,gd p 3,gd p 4,gd p 5,gd p 6,gd p 7,gd p 8,gd p 9,gd p 10,gd p 11,gd p 12,gd p 13,.i 0,.b false,lettersS (gd p 0).int,.b false,gd p 0,gd p 1,gd p 2,gd p 3,gd p 4,gd p 5,gd p 6,gd p 7,gd p 8,gd p 9,gd p 10,gd p 11,gd p 12,gd p 13]
noncomputable def s_LetterOks2 (N:Nat) (p:List D):Out:=bif !(numOk (hasB (lettersS (gd p 0).int).str 107) (gd p 8).int 0 7) then nx [gd p 0,gd p 1,gd p 2,gd p 3,gd p 4,gd p 5,gd p 6,gd p 7,gd p 8,gd p 9,gd p 10,gd p 11,gd p 12,gd p 13,.i 0,.b false,lettersS (gd p 0).int,.b true,gd p 0,gd p 1,gd p 2,gd p 3,gd p 4,gd p 5,gd p 6,gd p 7,gd p 8,gd p 9,gd p 10,gd p 11,gd p 12,gd p 13] else (s_LetterOks1 N p)
noncomputable def s_LetterOks3 (N:Nat) (p:List D):Out:=bif !(numOk (hasB (lettersS (gd p 0).int).str 110) (gd p 7).int 1 1000000) then nx [gd p 0,gd p 1,gd p 2,gd p 3,gd p 4,gd p 5,gd p 6,gd p 7,gd p 8,gd p 9,gd p 10,gd p 11,gd p 12,gd p 13,.i 0,.b false,lettersS (gd p 0).int,.b true,gd p 0,gd p 1,gd p 2,gd p 3,gd p 4,gd p 5,gd p 6,gd p 7,gd p 8,gd p 9,gd p 10,gd p 11,gd p 12,gd p 13] else nd (leI ((lettersS (gd p 0).int).str.length:Int) 100) (s_LetterOks2 N p)
noncomputable def s_LetterOks4 (N:Nat) (p:List D) (r4:Out):Out:=bif (gd r4.pay 23).int != 0 then nx [gd r4.pay 0,gd r4.pay 1,gd r4.pay 2,gd r4.pay 3,gd r4.pay 4,gd r4.pay 5,gd r4.pay 6,gd r4.pay 7,gd r4.pay 8,gd r4.pay 9,gd r4.pay 10,gd r4.pay 11,gd r4.pay 12,gd r4.pay 13,gd r4.pay 14,gd r4.pay 15,gd r4.pay 16,.b true,gd r4.pay 18,gd r4.pay 19,gd r4.pay 20,gd r4.pay 21,gd r4.pay 22,gd r4.pay 23,gd r4.pay 24,gd r4.pay 25,gd r4.pay 26,gd r4.pay 27,gd r4.pay 28,gd r4.pay 29,gd r4.pay 30,gd r4.pay 31] else nx [gd r4.pay 0,gd r4.pay 1,gd r4.pay 2,gd r4.pay 3,gd r4.pay 4,gd r4.pay 5,gd r4.pay 6,gd r4.pay 7,gd r4.pay 8,gd r4.pay 9,gd r4.pay 10,gd r4.pay 11,gd r4.pay 12,gd r4.pay 13,gd r4.pay 14,gd r4.pay 15,gd r4.pay 16,.b ((gd r4.pay 24).int != 0),gd r4.pay 18,gd r4.pay 19,gd r4.pay 20,gd r4.pay 21,gd r4.pay 22,gd r4.pay 23,gd r4.pay 24,gd r4.pay 25,gd r4.pay 26,gd r4.pay 27,gd r4.pay 28,gd r4.pay 29,gd r4.pay 30,gd r4.pay 31]
noncomputable def s_LetterOks5 (N:Nat) (p:List D) (r4:Out):Out:=bif !(hasB (gd r4.pay 16).str 114) then (s_LetterOks4 N p r4) else nx [gd r4.pay 0,gd r4.pay 1,gd r4.pay 2,gd r4.pay 3,gd r4.pay 4,gd r4.pay 5,gd r4.pay 6,gd r4.pay 7,gd r4.pay 8,gd r4.pay 9,gd r4.pay 10,gd r4.pay 11,gd r4.pay 12,gd r4.pay 13,gd r4.pay 14,gd r4.pay 15,gd r4.pay 16,.b false,gd r4.pay 18,gd r4.pay 19,gd r4.pay 20,gd r4.pay 21,gd r4.pay 22,gd r4.pay 23,gd r4.pay 24,gd r4.pay 25,gd r4.pay 26,gd r4.pay 27,gd r4.pay 28,gd r4.pay 29,gd r4.pay 30,gd r4.pay 31]
noncomputable def s_LetterOks6 (N:Nat) (p:List D) (r4:Out):Out:=bif !(rangeOk [(gd r4.pay 23),(gd r4.pay 24)]) then nx [gd r4.pay 0,gd r4.pay 1,gd r4.pay 2,gd r4.pay 3,gd r4.pay 4,gd r4.pay 5,gd r4.pay 6,gd r4.pay 7,gd r4.pay 8,gd r4.pay 9,gd r4.pay 10,gd r4.pay 11,gd r4.pay 12,gd r4.pay 13,gd r4.pay 14,gd r4.pay 15,gd r4.pay 16,.b true,gd r4.pay 18,gd r4.pay 19,gd r4.pay 20,gd r4.pay 21,gd r4.pay 22,gd r4.pay 23,gd r4.pay 24,gd r4.pay 25,gd r4.pay 26,gd r4.pay 27,gd r4.pay 28,gd r4.pay 29,gd r4.pay 30,gd r4.pay 31] else nd (leI ((gd r4.pay 16).str.length:Int) 100) (s_LetterOks5 N p r4)
noncomputable def s_LetterOks7 (N:Nat) (p:List D) (r4:Out):Out:=bif hasB (gd r4.pay 16).str 114 then (s_LetterOks6 N p r4) else nd (leI ((gd r4.pay 16).str.length:Int) 100) (s_LetterOks5 N p r4)
noncomputable def s_LetterOks8 (N:Nat) (p:List D) (r6:Out):Out:=bif !(hasB (gd r6.pay 16).str 83) then nx [gd r6.pay 0,gd r6.pay 1,gd r6.pay 2,gd r6.pay 3,gd r6.pay 4,gd r6.pay 5,gd r6.pay 6,gd r6.pay 7,gd r6.pay 8,gd r6.pay 9,gd r6.pay 10,gd r6.pay 11,gd r6.pay 12,gd r6.pay 13,gd r6.pay 14,gd r6.pay 15,gd r6.pay 16,.b (ltI 0 ((gd r6.pay 31).rows.length:Int)),gd r6.pay 18,gd r6.pay 19,gd r6.pay 20,gd r6.pay 21,gd r6.pay 22,gd r6.pay 23,gd r6.pay 24,gd r6.pay 25,gd r6.pay 26,gd r6.pay 27,gd r6.pay 28,gd r6.pay 29,gd r6.pay 30,gd r6.pay 31] else nx [gd r6.pay 0,gd r6.pay 1,gd r6.pay 2,gd r6.pay 3,gd r6.pay 4,gd r6.pay 5,gd r6.pay 6,gd r6.pay 7,gd r6.pay 8,gd r6.pay 9,gd r6.pay 10,gd r6.pay 11,gd r6.pay 12,gd r6.pay 13,gd r6.pay 14,gd r6.pay 15,gd r6.pay 16,.b false,gd r6.pay 18,gd r6.pay 19,gd r6.pay 20,gd r6.pay 21,gd r6.pay 22,gd r6.pay 23,gd r6.pay 24,gd r6.pay 25,gd r6.pay 26,gd r6.pay 27,gd r6.pay 28,gd r6.pay 29,gd r6.pay 30,gd r6.pay 31]
noncomputable def s_LetterOks9 (N:Nat) (p:List D) (r6:Out):Out:=bif !(sharesOk (gd r6.pay 31)) then nx [gd r6.pay 0,gd r6.pay 1,gd r6.pay 2,gd r6.pay 3,gd r6.pay 4,gd r6.pay 5,gd r6.pay 6,gd r6.pay 7,gd r6.pay 8,gd r6.pay 9,gd r6.pay 10,gd r6.pay 11,gd r6.pay 12,gd r6.pay 13,gd r6.pay 14,gd r6.pay 15,gd r6.pay 16,.b true,gd r6.pay 18,gd r6.pay 19,gd r6.pay 20,gd r6.pay 21,gd r6.pay 22,gd r6.pay 23,gd r6.pay 24,gd r6.pay 25,gd r6.pay 26,gd r6.pay 27,gd r6.pay 28,gd r6.pay 29,gd r6.pay 30,gd r6.pay 31] else nd (leI ((gd r6.pay 16).str.length:Int) 100) (s_LetterOks8 N p r6)
noncomputable def s_LetterOks10 (N:Nat) (p:List D) (r6:Out):Out:=bif ltI 0 ((gd r6.pay 30).rows.length:Int) then nx [gd r6.pay 0,gd r6.pay 1,gd r6.pay 2,gd r6.pay 3,gd r6.pay 4,gd r6.pay 5,gd r6.pay 6,gd r6.pay 7,gd r6.pay 8,gd r6.pay 9,gd r6.pay 10,gd r6.pay 11,gd r6.pay 12,gd r6.pay 13,gd r6.pay 14,gd r6.pay 15,gd r6.pay 16,.b true,gd r6.pay 18,gd r6.pay 19,gd r6.pay 20,gd r6.pay 21,gd r6.pay 22,gd r6.pay 23,gd r6.pay 24,gd r6.pay 25,gd r6.pay 26,gd r6.pay 27,gd r6.pay 28,gd r6.pay 29,gd r6.pay 30,gd r6.pay 31] else (s_LetterOks9 N p r6)
noncomputable def s_LetterOks11 (N:Nat) (p:List D) (r6:Out):Out:=nd (leI ((gd r6.pay 16).str.length:Int) 100) (bif !(hasB (gd r6.pay 16).str 67) then (s_LetterOks10 N p r6) else (s_LetterOks9 N p r6))
noncomputable def s_LetterOks12 (N:Nat) (p:List D) (r6:Out):Out:=bif !(storeOk (gd r6.pay 30)) then nx [gd r6.pay 0,gd r6.pay 1,gd r6.pay 2,gd r6.pay 3,gd r6.pay 4,gd r6.pay 5,gd r6.pay 6,gd r6.pay 7,gd r6.pay 8,gd r6.pay 9,gd r6.pay 10,gd r6.pay 11,gd r6.pay 12,gd r6.pay 13,gd r6.pay 14,gd r6.pay 15,gd r6.pay 16,.b true,gd r6.pay 18,gd r6.pay 19,gd r6.pay 20,gd r6.pay 21,gd r6.pay 22,gd r6.pay 23,gd r6.pay 24,gd r6.pay 25,gd r6.pay 26,gd r6.pay 27,gd r6.pay 28,gd r6.pay 29,gd r6.pay 30,gd r6.pay 31] else (s_LetterOks11 N p r6)
noncomputable def s_LetterOks13 (N:Nat) (p:List D) (r6:Out):Out:=bif ltI 0 ((gd r6.pay 29).rows.length:Int) then nx [gd r6.pay 0,gd r6.pay 1,gd r6.pay 2,gd r6.pay 3,gd r6.pay 4,gd r6.pay 5,gd r6.pay 6,gd r6.pay 7,gd r6.pay 8,gd r6.pay 9,gd r6.pay 10,gd r6.pay 11,gd r6.pay 12,gd r6.pay 13,gd r6.pay 14,gd r6.pay 15,gd r6.pay 16,.b true,gd r6.pay 18,gd r6.pay 19,gd r6.pay 20,gd r6.pay 21,gd r6.pay 22,gd r6.pay 23,gd r6.pay 24,gd r6.pay 25,gd r6.pay 26,gd r6.pay 27,gd r6.pay 28,gd r6.pay 29,gd r6.pay 30,gd r6.pay 31] else (s_LetterOks12 N p r6)
noncomputable def s_LetterOks14 (N:Nat) (p:List D) (r6:Out):Out:=nd (leI ((gd r6.pay 16).str.length:Int) 100) (bif !(hasB (gd r6.pay 16).str 87) then (s_LetterOks13 N p r6) else (s_LetterOks12 N p r6))
noncomputable def s_LetterOks15 (N:Nat) (p:List D) (r6:Out):Out:=bif !(writesOk (gd r6.pay 29)) then nx [gd r6.pay 0,gd r6.pay 1,gd r6.pay 2,gd r6.pay 3,gd r6.pay 4,gd r6.pay 5,gd r6.pay 6,gd r6.pay 7,gd r6.pay 8,gd r6.pay 9,gd r6.pay 10,gd r6.pay 11,gd r6.pay 12,gd r6.pay 13,gd r6.pay 14,gd r6.pay 15,gd r6.pay 16,.b true,gd r6.pay 18,gd r6.pay 19,gd r6.pay 20,gd r6.pay 21,gd r6.pay 22,gd r6.pay 23,gd r6.pay 24,gd r6.pay 25,gd r6.pay 26,gd r6.pay 27,gd r6.pay 28,gd r6.pay 29,gd r6.pay 30,gd r6.pay 31] else (s_LetterOks14 N p r6)
noncomputable def s_LetterOks16 (N:Nat) (p:List D) (r6:Out):Out:=bif ltI 0 ((gd r6.pay 28).rows.length:Int) then nx [gd r6.pay 0,gd r6.pay 1,gd r6.pay 2,gd r6.pay 3,gd r6.pay 4,gd r6.pay 5,gd r6.pay 6,gd r6.pay 7,gd r6.pay 8,gd r6.pay 9,gd r6.pay 10,gd r6.pay 11,gd r6.pay 12,gd r6.pay 13,gd r6.pay 14,gd r6.pay 15,gd r6.pay 16,.b true,gd r6.pay 18,gd r6.pay 19,gd r6.pay 20,gd r6.pay 21,gd r6.pay 22,gd r6.pay 23,gd r6.pay 24,gd r6.pay 25,gd r6.pay 26,gd r6.pay 27,gd r6.pay 28,gd r6.pay 29,gd r6.pay 30,gd r6.pay 31] else (s_LetterOks15 N p r6)
noncomputable def s_LetterOks17 (N:Nat) (p:List D) (r6:Out):Out:=nd (leI ((gd r6.pay 16).str.length:Int) 100) (bif !(hasB (gd r6.pay 16).str 82) then (s_LetterOks16 N p r6) else (s_LetterOks15 N p r6))
noncomputable def s_LetterOks18 (N:Nat) (p:List D) (r6:Out):Out:=bif ltI 16 ((gd r6.pay 28).rows.length:Int) then nx [gd r6.pay 0,gd r6.pay 1,gd r6.pay 2,gd r6.pay 3,gd r6.pay 4,gd r6.pay 5,gd r6.pay 6,gd r6.pay 7,gd r6.pay 8,gd r6.pay 9,gd r6.pay 10,gd r6.pay 11,gd r6.pay 12,gd r6.pay 13,gd r6.pay 14,gd r6.pay 15,gd r6.pay 16,.b true,gd r6.pay 18,gd r6.pay 19,gd r6.pay 20,gd r6.pay 21,gd r6.pay 22,gd r6.pay 23,gd r6.pay 24,gd r6.pay 25,gd r6.pay 26,gd r6.pay 27,gd r6.pay 28,gd r6.pay 29,gd r6.pay 30,gd r6.pay 31] else (s_LetterOks17 N p r6)
noncomputable def s_LetterOks19 (N:Nat) (p:List D) (o0:Out):Out:=bif o0.code==1 then some (1,o0.pay) else nd (o0.code==2) (ob ((votesN (gd o0.pay 31) 0)==((gd o0.pay 31).rows.length:Int)))
noncomputable def s_LetterOks20 (N:Nat) (p:List D) (r8:Out):Out:=let o0:Out:=iter (s_LetterOkL0 N p) N [gd r8.pay 0,gd r8.pay 1,gd r8.pay 2,gd r8.pay 3,gd r8.pay 4,gd r8.pay 5,gd r8.pay 6,gd r8.pay 7,gd r8.pay 8,gd r8.pay 9,gd r8.pay 10,gd r8.pay 11,gd r8.pay 12,gd r8.pay 13,gd r8.pay 14,gd r8.pay 15,gd r8.pay 16,.i 0,gd r8.pay 18,gd r8.pay 19,gd r8.pay 20,gd r8.pay 21,gd r8.pay 22,gd r8.pay 23,gd r8.pay 24,gd r8.pay 25,gd r8.pay 26,gd r8.pay 27,gd r8.pay 28,gd r8.pay 29,gd r8.pay 30,gd r8.pay 31]; nd o0.isSome (s_LetterOks19 N p o0)
noncomputable def s_LetterOks21 (N:Nat) (p:List D) (r6:Out):Out:=let r8:Out:=(s_LetterOks18 N p r6); nd r8.isSome (bif (gd r8.pay 17).bool then ob false else (s_LetterOks20 N p r8))
noncomputable def s_LetterOks22 (N:Nat) (p:List D) (r4:Out):Out:=let r6:Out:=nd (leI ((gd r4.pay 16).str.length:Int) 100) (s_LetterOks7 N p r4); nd r6.isSome (bif (gd r6.pay 17).bool then ob false else (s_LetterOks21 N p r6))
noncomputable def s_LetterOks23 (N:Nat) (p:List D):Out:=let r4:Out:=nd (leI ((lettersS (gd p 0).int).str.length:Int) 100) (s_LetterOks3 N p); nd r4.isSome (bif (gd r4.pay 17).bool then ob false else (s_LetterOks22 N p r4))
noncomputable def s_LetterOks24 (N:Nat) (p:List D):Out:=bif !(numOk (hasB (lettersS (gd p 0).int).str 116) (gd p 4).int 1 60) then ob false else (s_LetterOks23 N p)
noncomputable def s_LetterOks25 (N:Nat) (p:List D):Out:=bif !(numOk (hasB (lettersS (gd p 0).int).str 113) (gd p 3).int 1 1000000000) then ob false else nd (leI ((lettersS (gd p 0).int).str.length:Int) 100) (s_LetterOks24 N p)
noncomputable def s_LetterOks26 (N:Nat) (p:List D):Out:=bif !(numOk (hasB (lettersS (gd p 0).int).str 99) (gd p 2).int 0 5) then ob false else nd (leI ((lettersS (gd p 0).int).str.length:Int) 100) (s_LetterOks25 N p)
noncomputable def s_LetterOks27 (N:Nat) (p:List D):Out:=bif !(numOk (hasB (lettersS (gd p 0).int).str 103) (gd p 1).int 0 3) then ob false else nd (leI ((lettersS (gd p 0).int).str.length:Int) 100) (s_LetterOks26 N p)
noncomputable def s_LetterOks28 (N:Nat) (p:List D):Out:=bif (lettersS (gd p 0).int).str == [] then ob false else nd (leI ((lettersS (gd p 0).int).str.length:Int) 100) (s_LetterOks27 N p)
theorem s_LetterOk_ev (N:Nat) (p:List D):evFn Tryz.prog s_LetterOkT N s_LetterOkK Tryz.f52 rb [⟨ag rILetter,p⟩]=some (bo,(s_LetterOks28 N p)):=by kernel_rfl
def letterG (p:List D) (f:List UInt8):Bool:= !(f == [])&&(numOk (hasB f 71) (gd p 1).int 0 3&&(numOk (hasB f 67) (gd p 2).int 0 5&&(numOk (hasB f 82) (gd p 3).int 1 1000000000&&(numOk (hasB f 84) (gd p 4).int 1 60&&(numOk (hasB f 78) (gd p 7).int 1 1000000&&(numOk (hasB f 99) (gd p 8).int 0 7&&((hasB f 89 || !(gd p 9).bool)&&((bif hasB f 107 then rangeOk [gd p 5,gd p 6] else ((gd p 5).int==0)&&((gd p 6).int==0))&&(decide (((gd p 10).rows.length:Int)≤16)&&((hasB f 101||(((gd p 10).rows.length:Int)==0))&&(writesOk (gd p 11)&&((hasB f 87||(((gd p 11).rows.length:Int)==0))&&(storeOk (gd p 12)&&((hasB f 108||(((gd p 12).rows.length:Int)==0))&&(sharesOk (gd p 13)&&((hasB f 83||(((gd p 13).rows.length:Int)==0))&&((((List.range (gd p 10).rows.length).all fun m=>rangeOk (sub ((gd p 10).rows.getD m []) 0 2))&&((votesN (gd p 13) 0:Int)==((gd p 13).rows.length:Int))))))))))))))))))))
theorem lt_zero (n:Nat):ltI 0 (n:Int) = !((n:Int)==0):=by
 rw [Bool.eq_iff_iff]; simp only [ltI,decide_eq_true_eq,Bool.not_eq_true',beq_eq_false_iff_ne,ne_eq]; omega
theorem lt_16 (n:Nat):ltI 16 (n:Int) = !decide ((n:Int)≤16):=by
 rw [Bool.eq_iff_iff]; simp only [ltI,decide_eq_true_eq,Bool.not_eq_true',decide_eq_false_iff_not]; omega
theorem votesN_all0 {z:D} (h:sharesOk z=true):((votesN z 0:Int)==z.rows.length)=(!votesAny z 1 && !votesAny z 2):=by
 have:=cnt_all (fun k=>(gd (sub (z.rows.getD k []) 0 4) 3).int==0) z.rows.length 0
 simp only [Nat.zero_add] at this
 rw [show ((votesN z 0:Int)==z.rows.length)=decide (votesN z 0=z.rows.length) from by
  by_cases e:votesN z 0=z.rows.length
  ·rw [decide_eq_true e]; exact beq_iff_eq.2 (by omega)
  ·rw [decide_eq_false e]; exact beq_eq_false_iff_ne.2 (by omega)]
 rw [show decide (votesN z 0=z.rows.length)=_ from this]
 have hs:∀ k,k<z.rows.length→inB (gd (sub (z.rows.getD k []) 0 4) 3).int 0 2=true:=fun k hk=>by
  simp only [sharesOk,Bool.and_eq_true,List.all_eq_true] at h
  have:=h.2 k (List.mem_range.2 hk)
  simp only [shareAt,Bool.and_eq_true] at this
  exact this.2.2.2.2
 rw [Bool.eq_iff_iff]
 simp only [votesAny,anyS,Bool.and_eq_true,Bool.not_eq_true',List.all_eq_true,List.any_eq_false,List.mem_range,beq_iff_eq]
 constructor
 ·intro h1
  exact ⟨fun k hk e=>absurd (e.symm.trans (h1 k hk)) (by decide),fun k hk e=>absurd (e.symm.trans (h1 k hk)) (by decide)⟩
 ·rintro ⟨h1,h2⟩ k hk
  have:=hs k hk
  simp only [inB,Bool.and_eq_true,decide_eq_true_eq] at this
  have n0:=h1 k hk
  have n2:=h2 k hk
  omega
theorem letter_same (p:List D) (f:List UInt8):letterG p f=letterF p f:=by
 unfold letterG letterF readsOk
 rw [reads_all]
 refine congrArg (and _) (congrArg (and _) (congrArg (and _) (congrArg (and _) (congrArg (and _) (congrArg (and _) (congrArg (and _) ?_))))))
 generalize (hasB f 89 || !(gd p 9).bool)=a
 generalize (bif hasB f 107 then rangeOk [gd p 5,gd p 6] else ((gd p 5).int==0)&&((gd p 6).int==0))=b
 generalize decide (((gd p 10).rows.length:Int)≤16)=c
 generalize (hasB f 101||(((gd p 10).rows.length:Int)==0))=d
 generalize writesOk (gd p 11)=e
 generalize (hasB f 87||(((gd p 11).rows.length:Int)==0))=g
 generalize storeOk (gd p 12)=m
 generalize (hasB f 108||(((gd p 12).rows.length:Int)==0))=n
 cases hs:sharesOk (gd p 13)
 ·simp only [Bool.and_false,Bool.false_and]
 ·rw [votesN_all0 hs]
  generalize (hasB f 83||(((gd p 13).rows.length:Int)==0))=o
  generalize (!votesAny (gd p 13) 1 && !votesAny (gd p 13) 2)=v
  generalize ((List.range (gd p 10).rows.length).all fun m=>rangeOk (sub ((gd p 10).rows.getD m []) 0 2))=w
  cases a
  ·simp only [Bool.false_and,Bool.and_false]
  ·cases b
   ·simp only [Bool.false_and,Bool.and_false]
   ·cases c
    ·simp only [Bool.false_and,Bool.and_false]
    ·cases w
     ·simp only [Bool.false_and,Bool.and_false]
     ·simp only [Bool.true_and,Bool.and_true]
def PX (p:List D) (b:Bool):List D:= [gd p 0,gd p 1,gd p 2,gd p 3,gd p 4,gd p 5,gd p 6,gd p 7,gd p 8,gd p 9,gd p 10,gd p 11,gd p 12,gd p 13,.i 0,.b false,lettersS (gd p 0).int,.b b,gd p 0,gd p 1,gd p 2,gd p 3,gd p 4,gd p 5,gd p 6,gd p 7,gd p 8,gd p 9,gd p 10,gd p 11,gd p 12,gd p 13]
theorem nx_and (p:List D) (a g:Bool):(bif !a then nx (PX p true) else nx (PX p (!g)))=nx (PX p (!(a&&g))):=by cases a <;> rfl
theorem nx_or (p:List D) (h g:Bool) (n:Nat):(bif !h then (bif ltI 0 (n:Int) then nx (PX p true) else nx (PX p (!g))) else nx (PX p (!g)))=nx (PX p (!((h||((n:Int)==0))&&g))):=by
 rw [lt_zero]
 cases h <;> cases ((n:Int)==0) <;> rfl
theorem ob_and (a g:Bool):(bif !a then ob false else ob g)=ob (a&&g):=by cases a <;> rfl
def s_LetterOkg1 (p:List D):Bool:=hasB (lettersS (gd p 0).int).str 121 || !(gd p 9).bool
theorem s_LetterOkx1 (p:List D):s_LetterOks1 17 p=nx (PX p (!s_LetterOkg1 p)):=by
 rw [show s_LetterOks1 17 p=(bif (gd p 9).bool then nd (leI (((lettersS (gd p 0).int).str.length:Int)) 100) (nx (PX p (!(hasB (lettersS (gd p 0).int).str 121)))) else nx (PX p false)) from by kernel_rfl,letters_len,nd_true]
 unfold s_LetterOkg1
 cases (gd p 9).bool <;> cases hasB (lettersS (gd p 0).int).str 121 <;> rfl
def s_LetterOkg2 (p:List D):Bool:=numOk (hasB (lettersS (gd p 0).int).str 107) (gd p 8).int 0 7&&s_LetterOkg1 p
theorem s_LetterOkx2 (p:List D):s_LetterOks2 17 p=nx (PX p (!s_LetterOkg2 p)):=by
 rw [show s_LetterOks2 17 p=(bif !(numOk (hasB (lettersS (gd p 0).int).str 107) (gd p 8).int 0 7) then nx (PX p true) else s_LetterOks1 17 p) from by kernel_rfl,s_LetterOkx1]
 exact nx_and p _ _
def s_LetterOkg3 (p:List D):Bool:=numOk (hasB (lettersS (gd p 0).int).str 110) (gd p 7).int 1 1000000&&s_LetterOkg2 p
theorem s_LetterOkx3 (p:List D):s_LetterOks3 17 p=nx (PX p (!s_LetterOkg3 p)):=by
 rw [show s_LetterOks3 17 p=(bif !(numOk (hasB (lettersS (gd p 0).int).str 110) (gd p 7).int 1 1000000) then nx (PX p true) else nd (leI (((lettersS (gd p 0).int).str.length:Int)) 100) (s_LetterOks2 17 p)) from by kernel_rfl,s_LetterOkx2,letters_len,nd_true]
 exact nx_and p _ _
def s_LetterOkg5 (p:List D):Bool:=hasB (lettersS (gd p 0).int).str 114||(((gd p 5).int==0)&&((gd p 6).int==0))
theorem s_LetterOkx5 (p:List D) (b:Bool):s_LetterOks5 17 p (nx (PX p b))=nx (PX p (!s_LetterOkg5 p)):=by
 rw [show s_LetterOks5 17 p (nx (PX p b))=(bif !(hasB (lettersS (gd p 0).int).str 114) then (bif (gd p 5).int != 0 then nx (PX p true) else nx (PX p ((gd p 6).int != 0))) else nx (PX p false)) from by kernel_rfl,bne_not,bne_not]
 unfold s_LetterOkg5
 cases hasB (lettersS (gd p 0).int).str 114 <;> cases ((gd p 5).int==0) <;> cases ((gd p 6).int==0) <;> rfl
def s_LetterOkg6 (p:List D):Bool:=rangeOk [gd p 5,gd p 6]&&s_LetterOkg5 p
theorem s_LetterOkx6 (p:List D) (b:Bool):s_LetterOks6 17 p (nx (PX p b))=nx (PX p (!s_LetterOkg6 p)):=by
 rw [show s_LetterOks6 17 p (nx (PX p b))=(bif !(rangeOk [gd p 5,gd p 6]) then nx (PX p true) else nd (leI (((lettersS (gd p 0).int).str.length:Int)) 100) (s_LetterOks5 17 p (nx (PX p b)))) from by kernel_rfl,s_LetterOkx5,letters_len,nd_true]
 exact nx_and p _ _
def s_LetterOkg7 (p:List D):Bool:=bif hasB (lettersS (gd p 0).int).str 114 then s_LetterOkg6 p else s_LetterOkg5 p
theorem s_LetterOkx7 (p:List D) (b:Bool):s_LetterOks7 17 p (nx (PX p b))=nx (PX p (!s_LetterOkg7 p)):=by
 rw [show s_LetterOks7 17 p (nx (PX p b))=(bif hasB (lettersS (gd p 0).int).str 114 then s_LetterOks6 17 p (nx (PX p b)) else nd (leI (((lettersS (gd p 0).int).str.length:Int)) 100) (s_LetterOks5 17 p (nx (PX p b)))) from by kernel_rfl,s_LetterOkx6,s_LetterOkx5,letters_len,nd_true]
 unfold s_LetterOkg7
 cases hasB (lettersS (gd p 0).int).str 114 <;> rfl
def s_LetterOkg8 (p:List D):Bool:=hasB (lettersS (gd p 0).int).str 83||(((gd p 13).rows.length:Int)==0)
theorem s_LetterOkx8 (p:List D) (b:Bool):s_LetterOks8 17 p (nx (PX p b))=nx (PX p (!s_LetterOkg8 p)):=by
 rw [show s_LetterOks8 17 p (nx (PX p b))=(bif !(hasB (lettersS (gd p 0).int).str 83) then nx (PX p (ltI 0 ((gd p 13).rows.length:Int))) else nx (PX p false)) from by kernel_rfl,lt_zero]
 unfold s_LetterOkg8
 cases hasB (lettersS (gd p 0).int).str 83 <;> cases (((gd p 13).rows.length:Int)==0) <;> rfl
def s_LetterOkg9 (p:List D):Bool:=sharesOk (gd p 13)&&s_LetterOkg8 p
theorem s_LetterOkx9 (p:List D) (b:Bool):s_LetterOks9 17 p (nx (PX p b))=nx (PX p (!s_LetterOkg9 p)):=by
 rw [show s_LetterOks9 17 p (nx (PX p b))=(bif !(sharesOk (gd p 13)) then nx (PX p true) else nd (leI (((lettersS (gd p 0).int).str.length:Int)) 100) (s_LetterOks8 17 p (nx (PX p b)))) from by kernel_rfl,s_LetterOkx8,letters_len,nd_true]
 exact nx_and p _ _
def s_LetterOkg11 (p:List D):Bool:=(hasB (lettersS (gd p 0).int).str 67||(((gd p 12).rows.length:Int)==0))&&s_LetterOkg9 p
theorem s_LetterOkx11 (p:List D) (b:Bool):s_LetterOks11 17 p (nx (PX p b))=nx (PX p (!s_LetterOkg11 p)):=by
 rw [show s_LetterOks11 17 p (nx (PX p b))=(nd (leI (((lettersS (gd p 0).int).str.length:Int)) 100) (bif !(hasB (lettersS (gd p 0).int).str 67) then (bif ltI 0 ((gd p 12).rows.length:Int) then nx (PX p true) else s_LetterOks9 17 p (nx (PX p b))) else s_LetterOks9 17 p (nx (PX p b)))) from by kernel_rfl,s_LetterOkx9,letters_len,nd_true]
 exact nx_or p _ _ _
def s_LetterOkg12 (p:List D):Bool:=storeOk (gd p 12)&&s_LetterOkg11 p
theorem s_LetterOkx12 (p:List D) (b:Bool):s_LetterOks12 17 p (nx (PX p b))=nx (PX p (!s_LetterOkg12 p)):=by
 rw [show s_LetterOks12 17 p (nx (PX p b))=(bif !(storeOk (gd p 12)) then nx (PX p true) else s_LetterOks11 17 p (nx (PX p b))) from by kernel_rfl,s_LetterOkx11]
 exact nx_and p _ _
def s_LetterOkg14 (p:List D):Bool:=(hasB (lettersS (gd p 0).int).str 87||(((gd p 11).rows.length:Int)==0))&&s_LetterOkg12 p
theorem s_LetterOkx14 (p:List D) (b:Bool):s_LetterOks14 17 p (nx (PX p b))=nx (PX p (!s_LetterOkg14 p)):=by
 rw [show s_LetterOks14 17 p (nx (PX p b))=(nd (leI (((lettersS (gd p 0).int).str.length:Int)) 100) (bif !(hasB (lettersS (gd p 0).int).str 87) then (bif ltI 0 ((gd p 11).rows.length:Int) then nx (PX p true) else s_LetterOks12 17 p (nx (PX p b))) else s_LetterOks12 17 p (nx (PX p b)))) from by kernel_rfl,s_LetterOkx12,letters_len,nd_true]
 exact nx_or p _ _ _
def s_LetterOkg15 (p:List D):Bool:=writesOk (gd p 11)&&s_LetterOkg14 p
theorem s_LetterOkx15 (p:List D) (b:Bool):s_LetterOks15 17 p (nx (PX p b))=nx (PX p (!s_LetterOkg15 p)):=by
 rw [show s_LetterOks15 17 p (nx (PX p b))=(bif !(writesOk (gd p 11)) then nx (PX p true) else s_LetterOks14 17 p (nx (PX p b))) from by kernel_rfl,s_LetterOkx14]
 exact nx_and p _ _
def s_LetterOkg17 (p:List D):Bool:=(hasB (lettersS (gd p 0).int).str 82||(((gd p 10).rows.length:Int)==0))&&s_LetterOkg15 p
theorem s_LetterOkx17 (p:List D) (b:Bool):s_LetterOks17 17 p (nx (PX p b))=nx (PX p (!s_LetterOkg17 p)):=by
 rw [show s_LetterOks17 17 p (nx (PX p b))=(nd (leI (((lettersS (gd p 0).int).str.length:Int)) 100) (bif !(hasB (lettersS (gd p 0).int).str 82) then (bif ltI 0 ((gd p 10).rows.length:Int) then nx (PX p true) else s_LetterOks15 17 p (nx (PX p b))) else s_LetterOks15 17 p (nx (PX p b)))) from by kernel_rfl,s_LetterOkx15,letters_len,nd_true]
 exact nx_or p _ _ _
def s_LetterOkg18 (p:List D):Bool:=decide (((gd p 10).rows.length:Int)≤16)&&s_LetterOkg17 p
theorem s_LetterOkx18 (p:List D) (b:Bool):s_LetterOks18 17 p (nx (PX p b))=nx (PX p (!s_LetterOkg18 p)):=by
 rw [show s_LetterOks18 17 p (nx (PX p b))=(bif ltI 16 ((gd p 10).rows.length:Int) then nx (PX p true) else s_LetterOks17 17 p (nx (PX p b))) from by kernel_rfl,s_LetterOkx17,lt_16]
 exact nx_and p _ _
theorem s_LetterOkx20 (p:List D) (b:Bool) (h:decide (((gd p 10).rows.length:Int)≤16)=true):s_LetterOks20 17 p (nx (PX p b))=ob (((List.range (gd p 10).rows.length).all fun m=>rangeOk (sub ((gd p 10).rows.getD m []) 0 2))&&((votesN (gd p 13) 0:Int)==((gd p 13).rows.length:Int))):=by
 have h16:(gd p 10).rows.length≤16:=by have:=of_decide_eq_true h; omega
 have e:=for_loop (L:=s_LetterOkL0 17 p) (fun k => [gd p 0,gd p 1,gd p 2,gd p 3,gd p 4,gd p 5,gd p 6,gd p 7,gd p 8,gd p 9,gd p 10,gd p 11,gd p 12,gd p 13,.i 0,.b false,lettersS (gd p 0).int,.i (k:Int),gd p 0,gd p 1,gd p 2,gd p 3,gd p 4,gd p 5,gd p 6,gd p 7,gd p 8,gd p 9,gd p 10,gd p 11,gd p 12,gd p 13]) (gd p 10).rows.length (fun m=>rangeOk (sub ((gd p 10).rows.getD m []) 0 2)) [.b false] 0 (fun k hk=>?_) ?_ (N:=17) (by omega)
 ·simp only [Int.natCast_zero] at e
  rw [show s_LetterOks20 17 p (nx (PX p b))=nd (iter (s_LetterOkL0 17 p) 17 [gd p 0,gd p 1,gd p 2,gd p 3,gd p 4,gd p 5,gd p 6,gd p 7,gd p 8,gd p 9,gd p 10,gd p 11,gd p 12,gd p 13,.i 0,.b false,lettersS (gd p 0).int,.i 0,gd p 0,gd p 1,gd p 2,gd p 3,gd p 4,gd p 5,gd p 6,gd p 7,gd p 8,gd p 9,gd p 10,gd p 11,gd p 12,gd p 13]).isSome (s_LetterOks19 17 p (iter (s_LetterOkL0 17 p) 17 [gd p 0,gd p 1,gd p 2,gd p 3,gd p 4,gd p 5,gd p 6,gd p 7,gd p 8,gd p 9,gd p 10,gd p 11,gd p 12,gd p 13,.i 0,.b false,lettersS (gd p 0).int,.i 0,gd p 0,gd p 1,gd p 2,gd p 3,gd p 4,gd p 5,gd p 6,gd p 7,gd p 8,gd p 9,gd p 10,gd p 11,gd p 12,gd p 13])) from by kernel_rfl,e]
  cases (List.range (gd p 10).rows.length).all fun m=>rangeOk (sub ((gd p 10).rows.getD m []) 0 2) <;> rfl
 ·show s_LetterOkL0 _ p [_,_,_,_,_,_,_,_,_,_,_,_,_,_,_,_,_,.i (k:Int),_,_,_,_,_,_,_,_,_,_,_,_,_,_]=_
  rw [s_LetterOkR0]
  simp only [int_i,c_lt hk,nd_ix hk,w64_succ hk (show (gd p 10).rows.length≤9223372036854775807 from by omega),Int.toNat_natCast]
  cases rangeOk (sub ((gd p 10).rows.getD k []) 0 2) <;> rfl
 ·show s_LetterOkL0 _ p [_,_,_,_,_,_,_,_,_,_,_,_,_,_,_,_,_,.i ((gd p 10).rows.length:Int),_,_,_,_,_,_,_,_,_,_,_,_,_,_]=_
  rw [s_LetterOkR0]
  simp only [int_i,c_nlt]
def s_LetterOkg21 (p:List D):Bool:=s_LetterOkg18 p&&(((List.range (gd p 10).rows.length).all fun m=>rangeOk (sub ((gd p 10).rows.getD m []) 0 2))&&((votesN (gd p 13) 0:Int)==((gd p 13).rows.length:Int)))
theorem s_LetterOkx21 (p:List D) (b:Bool):s_LetterOks21 17 p (nx (PX p b))=ob (s_LetterOkg21 p):=by
 rw [show s_LetterOks21 17 p (nx (PX p b))=nd (s_LetterOks18 17 p (nx (PX p b))).isSome (bif (gd (Out.pay (s_LetterOks18 17 p (nx (PX p b)))) 17).bool then ob false else s_LetterOks20 17 p (s_LetterOks18 17 p (nx (PX p b)))) from by kernel_rfl,s_LetterOkx18]
 show (bif !s_LetterOkg18 p then ob false else s_LetterOks20 17 p (nx (PX p (!s_LetterOkg18 p))))=_
 unfold s_LetterOkg21 s_LetterOkg18
 cases h:decide (((gd p 10).rows.length:Int)≤16)
 ·rfl
 ·rw [s_LetterOkx20 p _ h,Bool.true_and]
  exact ob_and _ _
def s_LetterOkg22 (p:List D):Bool:=s_LetterOkg7 p&&s_LetterOkg21 p
theorem s_LetterOkx22 (p:List D) (b:Bool):s_LetterOks22 17 p (nx (PX p b))=ob (s_LetterOkg22 p):=by
 rw [show s_LetterOks22 17 p (nx (PX p b))=nd (nd (leI (((lettersS (gd p 0).int).str.length:Int)) 100) (s_LetterOks7 17 p (nx (PX p b)))).isSome (bif (gd (Out.pay (nd (leI (((lettersS (gd p 0).int).str.length:Int)) 100) (s_LetterOks7 17 p (nx (PX p b))))) 17).bool then ob false else s_LetterOks21 17 p (nd (leI (((lettersS (gd p 0).int).str.length:Int)) 100) (s_LetterOks7 17 p (nx (PX p b))))) from by kernel_rfl,letters_len,nd_true,s_LetterOkx7]
 show (bif !s_LetterOkg7 p then ob false else s_LetterOks21 17 p (nx (PX p (!s_LetterOkg7 p))))=_
 rw [s_LetterOkx21]
 exact ob_and _ _
def s_LetterOkg23 (p:List D):Bool:=s_LetterOkg3 p&&s_LetterOkg22 p
theorem s_LetterOkx23 (p:List D):s_LetterOks23 17 p=ob (s_LetterOkg23 p):=by
 rw [show s_LetterOks23 17 p=nd (nd (leI (((lettersS (gd p 0).int).str.length:Int)) 100) (s_LetterOks3 17 p)).isSome (bif (gd (Out.pay (nd (leI (((lettersS (gd p 0).int).str.length:Int)) 100) (s_LetterOks3 17 p))) 17).bool then ob false else s_LetterOks22 17 p (nd (leI (((lettersS (gd p 0).int).str.length:Int)) 100) (s_LetterOks3 17 p))) from by kernel_rfl,letters_len,nd_true,s_LetterOkx3]
 show (bif !s_LetterOkg3 p then ob false else s_LetterOks22 17 p (nx (PX p (!s_LetterOkg3 p))))=_
 rw [s_LetterOkx22]
 exact ob_and _ _
def s_LetterOkg24 (p:List D):Bool:=numOk (hasB (lettersS (gd p 0).int).str 116) (gd p 4).int 1 60&&s_LetterOkg23 p
theorem s_LetterOkx24 (p:List D):s_LetterOks24 17 p=ob (s_LetterOkg24 p):=by
 rw [show s_LetterOks24 17 p=(bif !(numOk (hasB (lettersS (gd p 0).int).str 116) (gd p 4).int 1 60) then ob false else s_LetterOks23 17 p) from rfl,s_LetterOkx23]
 exact ob_and _ _
def s_LetterOkg25 (p:List D):Bool:=numOk (hasB (lettersS (gd p 0).int).str 113) (gd p 3).int 1 1000000000&&s_LetterOkg24 p
theorem s_LetterOkx25 (p:List D):s_LetterOks25 17 p=ob (s_LetterOkg25 p):=by
 rw [show s_LetterOks25 17 p=(bif !(numOk (hasB (lettersS (gd p 0).int).str 113) (gd p 3).int 1 1000000000) then ob false else nd (leI (((lettersS (gd p 0).int).str.length:Int)) 100) (s_LetterOks24 17 p)) from rfl,s_LetterOkx24,letters_len,nd_true]
 exact ob_and _ _
def s_LetterOkg26 (p:List D):Bool:=numOk (hasB (lettersS (gd p 0).int).str 99) (gd p 2).int 0 5&&s_LetterOkg25 p
theorem s_LetterOkx26 (p:List D):s_LetterOks26 17 p=ob (s_LetterOkg26 p):=by
 rw [show s_LetterOks26 17 p=(bif !(numOk (hasB (lettersS (gd p 0).int).str 99) (gd p 2).int 0 5) then ob false else nd (leI (((lettersS (gd p 0).int).str.length:Int)) 100) (s_LetterOks25 17 p)) from rfl,s_LetterOkx25,letters_len,nd_true]
 exact ob_and _ _
def s_LetterOkg27 (p:List D):Bool:=numOk (hasB (lettersS (gd p 0).int).str 103) (gd p 1).int 0 3&&s_LetterOkg26 p
theorem s_LetterOkx27 (p:List D):s_LetterOks27 17 p=ob (s_LetterOkg27 p):=by
 rw [show s_LetterOks27 17 p=(bif !(numOk (hasB (lettersS (gd p 0).int).str 103) (gd p 1).int 0 3) then ob false else nd (leI (((lettersS (gd p 0).int).str.length:Int)) 100) (s_LetterOks26 17 p)) from rfl,s_LetterOkx26,letters_len,nd_true]
 exact ob_and _ _
def s_LetterOkg28 (p:List D):Bool:= !((lettersS (gd p 0).int).str == [])&&s_LetterOkg27 p
theorem s_LetterOkx28 (p:List D):s_LetterOks28 17 p=ob (s_LetterOkg28 p):=by
 rw [show s_LetterOks28 17 p=(bif (lettersS (gd p 0).int).str == [] then ob false else nd (leI (((lettersS (gd p 0).int).str.length:Int)) 100) (s_LetterOks27 17 p)) from rfl,s_LetterOkx27,letters_len,nd_true]
 unfold s_LetterOkg28
 cases (lettersS (gd p 0).int).str == [] <;> rfl
theorem s_LetterOk_all (p:List D):s_LetterOkg28 p=letterG p (formI (gd p 0).int):=by
 obtain ⟨e0,e1,e2,e3,e4,e5,e6,e7,e8,e9,e10,e11,e12⟩:=letters_same (gd p 0).int
 unfold letterG s_LetterOkg28 s_LetterOkg27 s_LetterOkg26 s_LetterOkg25 s_LetterOkg24 s_LetterOkg23 s_LetterOkg22 s_LetterOkg21 s_LetterOkg18 s_LetterOkg17 s_LetterOkg15 s_LetterOkg14 s_LetterOkg12 s_LetterOkg11 s_LetterOkg9 s_LetterOkg8 s_LetterOkg7 s_LetterOkg6 s_LetterOkg5 s_LetterOkg3 s_LetterOkg2 s_LetterOkg1
 simp only [e0,e1,e2,e3,e4,e5,e6,e7,e8,e9,e10,e11,e12]
 rw [show (bif hasB (formI (gd p 0).int) 107 then rangeOk [gd p 5,gd p 6]&&(hasB (formI (gd p 0).int) 107||((gd p 5).int==0)&&((gd p 6).int==0)) else hasB (formI (gd p 0).int) 107||((gd p 5).int==0)&&((gd p 6).int==0))=(bif hasB (formI (gd p 0).int) 107 then rangeOk [gd p 5,gd p 6] else ((gd p 5).int==0)&&((gd p 6).int==0)) from by
  cases hasB (formI (gd p 0).int) 107
  ·rfl
  ·simp only [cond_true,Bool.true_or,Bool.and_true]]
 simp only [Bool.and_assoc]
def s_LetterOkE:Ent:=(52,e1 (ag rILetter) fun p=>(⟨rb,[.b (letterOk p)]⟩,true))
theorem s_LetterOk_ok:EntOk Tryz.prog s_LetterOkE:=e1_ok fun p h=>evFn_sound (N:=17) (ks:=s_LetterOkK) (key:=bo) s_LetterOkT_ok (enters Tryz.func52) Tryz.func52 fun hw=>by
 rw [s_LetterOk_ev]
 exact congrArg (fun x=>some (bo,x)) ((s_LetterOkx28 p).trans (congrArg ob ((s_LetterOk_all p).trans (letter_same p (formI (gd p 0).int)))))
end Go.Proofs.YtchceahcaaibcaaGreat
namespace Go.Proofs.YtchceahcaaibcaaGreat
set_option maxRecDepth 4096
set_option maxHeartbeats 1000000
abbrev i_cellFor_1T:FuncId→List T→Option (T × Bool):=find []
theorem i_cellFor_1T_ok:CallOk Tryz.prog i_cellFor_1T:=find_ok (fN)
abbrev i_cellFor_1K:List Nat:= [0,1,2,4]
theorem i_cellFor_1_ev (N:Nat) (p q:List D):evFn Tryz.prog i_cellFor_1T N i_cellFor_1K Tryz.f290 ri [⟨ag rICell,p⟩,⟨ri,q⟩]=some (bo,
 oi (w64 ((gd p 0).int - (gd q 0).int))):=by kernel_rfl
def i_cellFor_1E:Ent:=(290,e2 (ag rICell) ri fun p q=>(⟨ri,[.i (w64 ((gd p 0).int - (gd q 0).int))]⟩,true))
theorem i_cellFor_1_ok:EntOk Tryz.prog i_cellFor_1E:=e2_ok fun p q h=>evFn_sound (N:=0) (ks:=i_cellFor_1K) (key:=bo) i_cellFor_1T_ok (enters Tryz.func290) Tryz.func290 fun hw=>by
 rw [i_cellFor_1_ev]
 skip
abbrev bsCT:FuncId→List T→Option (T × Bool):=find [i_cellFor_1E]
theorem bsCT_ok:CallOk Tryz.prog bsCT:=find_ok (fC ⟨i_cellFor_1_ok,fN⟩)
abbrev bsCK:List Nat:= [0,1,2,6,7,8,9,10,11,17,31]
noncomputable def bsCL0 (N:Nat) (p q r:List D):List D→Out:=loopOf Tryz.prog bsCT N bsCK Tryz.f289 (.tup [.c (.d si),.c (.d (.bool))]) [⟨sd (.sl 176),p⟩,⟨ri,q⟩,⟨.one (.c (.fn 290 [])),r⟩] 0
theorem bsCR0 (N:Nat) (p q r:List D) (x0 x1 x2 x3 x4 x5 x6 x7:D):(bsCL0 N p q r) [x0,x1,x2,x3,x4,x5,x6,x7] =
 bif ltI x6.int x7.int then nd (leI 0 1) (nd (inRange (w64 ((IntKind.u64.wrap (w64 (x6.int+x7.int))).fdiv (2 ^ (min 1 64)))) x0.rows.length) (bif ltI (w64 ((gd (x0.rows.getD (w64 ((IntKind.u64.wrap (w64 (x6.int+x7.int))).fdiv (2 ^ (min 1 64)))).toNat []) 0).int - x1.int)) 0 then nx [x0,x1,x2,x3,x4,x5,.i (w64 ((w64 ((IntKind.u64.wrap (w64 (x6.int+x7.int))).fdiv (2 ^ (min 1 64))))+1)),x7]
 else nx [x0,x1,x2,x3,x4,x5,x6,.i (w64 ((IntKind.u64.wrap (w64 (x6.int+x7.int))).fdiv (2 ^ (min 1 64))))]))
 else ex 0 [x0,x1,x2,x3,x4,x5,x6,x7]:=by kernel_rfl
noncomputable def bsCs0 (N:Nat) (p q r:List D):Out:=let o0:=iter (bsCL0 N p q r) N [gd p 0,gd q 0,gd r 0,.i 0,.i 0,.i ((gd p 0).rows.length:Int),.i 0,.i ((gd p 0).rows.length:Int)]; nd o0.isSome (nd (o0.code==2) (bif ltI (gd o0.pay 6).int (gd o0.pay 5).int then nd (inRange (gd o0.pay 6).int (gd o0.pay 0).rows.length) (some (1,[gd o0.pay 6,.b ((w64 ((gd ((gd o0.pay 0).rows.getD (gd o0.pay 6).int.toNat []) 0).int - (gd o0.pay 1).int))==0)])) else some (1,[gd o0.pay 6,.b false])))
theorem bsC_ev (N:Nat) (p q r:List D):evFn Tryz.prog bsCT N bsCK Tryz.f289 (.tup [.c (.d si),.c (.d (.bool))]) [⟨sd (.sl 176),p⟩,⟨ri,q⟩,⟨.one (.c (.fn 290 [])),r⟩]=some (bo,(bsCs0 N p q r)):=by kernel_rfl
def keyAt (z:D) (k:Nat):Int:=(gd (z.rows.getD k []) 0).int
def lowN (z:D) (t:Int):Nat:=cnt (fun k=>ltI (keyAt z k) t) 0 z.rows.length
def bsB (z:D) (t:Int):Bool:=ltI (lowN z t:Int) (z.rows.length:Int)&&(keyAt z (lowN z t)==t)
theorem cnt_add (C:Nat→Bool):∀ b k a,cnt C k (a+b)=cnt C k a+cnt C (k+a) b
 | 0,k,a=>rfl
 | b+1,k,a=>by
  rw [← Nat.add_assoc,cnt_succ,cnt_succ,cnt_add C b k a,Nat.add_assoc,Nat.add_assoc]
theorem cnt_yes {C:Nat→Bool}:∀ m k,(∀ j,j<m→C (k+j)=true)→cnt C k m=m
 | 0,_,_=>rfl
 | m+1,k,h=>by rw [cnt_succ,cnt_yes m k (fun j hj=>h j (by omega)),h m (by omega)]; rfl
theorem cnt_no {C:Nat→Bool}:∀ m k,(∀ j,j<m→C (k+j)=false)→cnt C k m=0
 | 0,_,_=>rfl
 | m+1,k,h=>by rw [cnt_succ,cnt_no m k (fun j hj=>h j (by omega)),h m (by omega)]; rfl
theorem lowN_eq {z:D} {t:Int} {i:Nat} (hi:i≤z.rows.length) (h1:∀ k,k<i→keyAt z k<t) (h2:∀ k,i≤k→k<z.rows.length→t≤keyAt z k):lowN z t=i:=by
 unfold lowN
 obtain ⟨m,hm⟩:∃ m,z.rows.length=i+m:=⟨z.rows.length - i,by omega⟩
 rw [hm,cnt_add,cnt_yes i 0 (fun j hj=>by rw [Nat.zero_add]; exact ltI_t (h1 j hj)),cnt_no m (0+i) (fun j hj=>by rw [Nat.zero_add]; exact ltI_f (h2 (i+j) (by omega) (by omega)))]
 omega
structure Sorted (z:D):Prop where
 len:z.rows.length≤60
 key:∀ k,k<z.rows.length→0≤keyAt z k∧keyAt z k≤999
 lt:∀ i j,i<j→j<z.rows.length→keyAt z i<keyAt z j
theorem store_sorted {z:D} (h:storeOk z=true):Sorted z:=by
 simp only [storeOk,Bool.and_eq_true,List.all_eq_true,List.mem_range,leI,decide_eq_true_eq] at h
 obtain ⟨h,hl⟩:=h
 refine ⟨by omega,fun k hk=>?_,fun i j hij hj=>?_⟩
 ·have:=h k hk
  cases k with
  | zero=>simp only [storeAt,Bool.and_eq_true,inB,decide_eq_true_eq] at this; exact ⟨this.1.1,this.1.2⟩
  | succ k=>simp only [storeAt,Bool.and_eq_true,inB,decide_eq_true_eq] at this; exact ⟨this.1.1,this.1.2⟩
 ·obtain ⟨d,rfl⟩:∃ d,j=i+d+1:=⟨j - i - 1,by omega⟩
  have hs:∀ k,k+1<z.rows.length→keyAt z k<keyAt z (k+1):=fun k hk=>by
   have:=h (k+1) hk
   simp only [storeAt,Bool.and_eq_true,leI,Bool.not_eq_true',decide_eq_false_iff_not] at this
   unfold keyAt
   omega
  clear hij
  induction d with
  | zero=>exact hs i hj
  | succ d ih=>exact Int.lt_trans (ih (by omega)) (hs (i+d+1) hj)
theorem u64_id {x:Int} (h:0≤x) (h':x≤9223372036854775807):IntKind.u64.wrap x=x:=by
 simp only [IntKind.wrap,IntKind.signed,IntKind.bits]
 simp
 omega
theorem half {i j:Nat} (h:i+j≤1000):w64 ((IntKind.u64.wrap (w64 ((i:Int)+(j:Int)))).fdiv (2 ^ (min 1 64)))=(((i+j) / 2:Nat):Int):=by
 rw [w64_id (x:=(i:Int)+j) (by omega) (by omega),u64_id (by omega) (by omega),show ((2:Int) ^ (min 1 64))=((2:Nat):Int) from rfl,show ((i:Int)+(j:Int))=((i+j:Nat):Int) from by omega,← Int.ofNat_fdiv,w64_id (by omega) (by omega)]
theorem bs_loop (p q r:List D) (N:Nat) (hz:Sorted (gd p 0)) (ht:inB (gd q 0).int 0 999=true):∀ (d i j M:Nat),j=i+d→j≤(gd p 0).rows.length→d<M→(∀ k,k<i→keyAt (gd p 0) k<(gd q 0).int)→(∀ k,j≤k→k<(gd p 0).rows.length→(gd q 0).int≤keyAt (gd p 0) k) →
  iter (bsCL0 N p q r) M [gd p 0,gd q 0,gd r 0,.i 0,.i 0,.i ((gd p 0).rows.length:Int),.i (i:Int),.i (j:Int)]=some (2,[gd p 0,gd q 0,gd r 0,.i 0,.i 0,.i ((gd p 0).rows.length:Int),.i (lowN (gd p 0) (gd q 0).int:Int),.i (lowN (gd p 0) (gd q 0).int:Int)]):=by
 intro d
 induction d using Nat.strongRecOn with
 | _ d ih =>
 intro i j M hj hn hM h1 h2
 have hlen:=hz.len
 simp only [inB,Bool.and_eq_true,decide_eq_true_eq] at ht
 obtain ⟨M,rfl⟩:∃ M',M=M'+1:=⟨M - 1,by omega⟩
 rw [iter,bsCR0]
 simp only [int_i]
 by_cases hd:d=0
 ·subst hd
  obtain rfl:j=i:=by omega
  rw [c_nlt,lowN_eq hn h1 h2]
  rfl
 ·rw [c_lt (show i<j from by omega)]
  have hh:(i+j) / 2<(gd p 0).rows.length:=by omega
  simp only [half (show i+j≤1000 from by omega),nd_ix hh,Int.toNat_natCast,show leI 0 1=true from rfl,nd_true]
  have hk:=hz.key _ hh
  rw [show (gd ((gd p 0).rows.getD ((i+j) / 2) []) 0).int=keyAt (gd p 0) ((i+j) / 2) from rfl,w64_id (x:=keyAt (gd p 0) ((i+j) / 2) - (gd q 0).int) (by omega) (by omega)]
  by_cases hc:keyAt (gd p 0) ((i+j) / 2)<(gd q 0).int
  ·rw [ltI_t (show keyAt (gd p 0) ((i+j) / 2) - (gd q 0).int<0 from by omega),cond_true]
   simp only [w64_succ hh (show (gd p 0).rows.length≤9223372036854775807 from by omega)]
   exact ih (j - ((i+j) / 2+1)) (by omega) ((i+j) / 2+1) j M (by omega) hn (by omega) (fun k hk'=>by
    rcases Nat.lt_or_ge k ((i+j) / 2) with h | h
    ·have:=hz.lt k _ h hh; omega
    ·obtain rfl:k=(i+j) / 2:=by omega
     exact hc) h2
  ·rw [ltI_f (show 0≤keyAt (gd p 0) ((i+j) / 2) - (gd q 0).int from by omega),cond_false]
   exact ih ((i+j) / 2 - i) (by omega) i ((i+j) / 2) M (by omega) (by omega) (by omega) h1 (fun k hk1 hk2=>by
    rcases Nat.lt_or_ge ((i+j) / 2) k with h | h
    ·have:=hz.lt _ k h hk2; omega
    ·obtain rfl:k=(i+j) / 2:=by omega
     omega)
def bsCE:Ent:=(289,e3 (sd (.sl 176)) ri (.one (.c (.fn 290 []))) fun p q r=>(⟨.tup [.c (.d si),.c (.d (.bool))],[.i (lowN (gd p 0) (gd q 0).int:Int),.b (bsB (gd p 0) (gd q 0).int)]⟩,storeOk (gd p 0)&&inB (gd q 0).int 0 999))
theorem bsC_ok:EntOk Tryz.prog bsCE:=e3_ok fun p q r h=>evFn_sound (N:=61) (ks:=bsCK) (key:=bo) bsCT_ok (enters Tryz.func289) Tryz.func289 fun hw=>by
 rw [bsC_ev]
 have h:(storeOk (gd p 0)&&inB (gd q 0).int 0 999)=true:=h
 simp only [Bool.and_eq_true] at h
 have hz:=store_sorted h.1
 have hlen:=hz.len
 have e:=bs_loop p q r 61 hz h.2 (gd p 0).rows.length 0 (gd p 0).rows.length 61 (by omega) (Nat.le_refl _) (by omega) (fun k hk=>absurd hk (Nat.not_lt_zero _)) (fun k h1 h2=>absurd h2 (by omega))
 simp only [Int.natCast_zero] at e
 unfold bsCs0
 rw [e]
 simp only [nd,cond_true,cond_false,Option.isSome_some,Out.code,Out.pay,Option.getD_some,gd_cons_zero,gd_cons_succ,Nat.reduceBEq,Nat.reduceAdd,int_i,bool_b,str_s,rows_l,Bool.not_true,Bool.not_false,beq_self_eq_true]
 unfold bsB
 have ht:=h.2
 simp only [inB,Bool.and_eq_true,decide_eq_true_eq] at ht
 by_cases hb:lowN (gd p 0) (gd q 0).int<(gd p 0).rows.length
 ·have hk:=hz.key _ hb
  rw [ltI_nat hb,inRange_nat hb,Int.toNat_natCast,show (gd ((gd p 0).rows.getD (lowN (gd p 0) (gd q 0).int) []) 0).int=keyAt (gd p 0) (lowN (gd p 0) (gd q 0).int) from rfl,w64_id (x:=keyAt (gd p 0) (lowN (gd p 0) (gd q 0).int) - (gd q 0).int) (by omega) (by omega)]
  rw [show (keyAt (gd p 0) (lowN (gd p 0) (gd q 0).int) - (gd q 0).int==0)=(keyAt (gd p 0) (lowN (gd p 0) (gd q 0).int)==(gd q 0).int) from by
   rw [Bool.eq_iff_iff]; simp only [beq_iff_eq]; omega]
  rfl
 ·rw [ltI_f (show ((gd p 0).rows.length:Int)≤(lowN (gd p 0) (gd q 0).int:Int) from by omega)]
  rfl
abbrev i_cellForT:FuncId→List T→Option (T × Bool):=find [bsCE]
theorem i_cellForT_ok:CallOk Tryz.prog i_cellForT:=find_ok (fC ⟨bsC_ok,fN⟩)
abbrev i_cellForK:List Nat:= [0,1,4,5]
theorem i_cellFor_ev (N:Nat) (p q:List D):evFn Tryz.prog i_cellForT N i_cellForK Tryz.f205 (.tup [.c (.d si),.c (.d (.bool))]) [⟨sd (.sl 176),p⟩,⟨ri,q⟩]=some (bo,
 nd (storeOk (gd p 0)&&inB (gd q 0).int 0 999) (some (1,[.i (lowN (gd p 0) (gd q 0).int:Int),.b (bsB (gd p 0) (gd q 0).int)]))):=by kernel_rfl
def i_cellForE:Ent:=(205,e2 (sd (.sl 176)) ri fun p q=>(⟨.tup [.c (.d si),.c (.d (.bool))],[.i (lowN (gd p 0) (gd q 0).int:Int),.b (bsB (gd p 0) (gd q 0).int)]⟩,storeOk (gd p 0)&&inB (gd q 0).int 0 999))
theorem i_cellFor_ok:EntOk Tryz.prog i_cellForE:=e2_ok fun p q h=>evFn_sound (N:=0) (ks:=i_cellForK) (key:=bo) i_cellForT_ok (enters Tryz.func205) Tryz.func205 fun hw=>by
 rw [i_cellFor_ev]
 have h:(storeOk (gd p 0)&&inB (gd q 0).int 0 999)=true:=h
 rw [h,nd_true]
abbrev i_valueOfT:FuncId→List T→Option (T × Bool):=find [i_cellForE]
theorem i_valueOfT_ok:CallOk Tryz.prog i_valueOfT:=find_ok (fC ⟨i_cellFor_ok,fN⟩)
abbrev i_valueOfK:List Nat:= [0,1,4,5,6,14]
theorem i_valueOf_ev (N:Nat) (p q:List D):evFn Tryz.prog i_valueOfT N i_valueOfK Tryz.f97 ri [⟨sd (.sl 176),p⟩,⟨ri,q⟩]=some (bo,
 nd (storeOk (gd p 0)&&inB (gd q 0).int 0 999) (bif !(bsB (gd p 0) (gd q 0).int) then oi (-1)
 else nd (inRange (lowN (gd p 0) (gd q 0).int:Int) (gd p 0).rows.length) (some (1,[gd ((gd p 0).rows.getD (lowN (gd p 0) (gd q 0).int:Int).toNat []) 1])))):=by kernel_rfl
def valD (z:D) (t:Int):D:=bif bsB z t then gd (z.rows.getD (lowN z t) []) 1 else .i (-1)
def i_valueOfE:Ent:=(97,e2 (sd (.sl 176)) ri fun p q=>(⟨ri,[valD (gd p 0) (gd q 0).int]⟩,storeOk (gd p 0)&&inB (gd q 0).int 0 999))
theorem i_valueOf_ok:EntOk Tryz.prog i_valueOfE:=e2_ok fun p q h=>evFn_sound (N:=0) (ks:=i_valueOfK) (key:=bo) i_valueOfT_ok (enters Tryz.func97) Tryz.func97 fun hw=>by
 rw [i_valueOf_ev]
 have h:(storeOk (gd p 0)&&inB (gd q 0).int 0 999)=true:=h
 rw [h,nd_true]
 unfold valD
 cases hb:bsB (gd p 0) (gd q 0).int
 ·rfl
 ·have hb':=hb
  simp only [bsB,Bool.and_eq_true,ltI,decide_eq_true_eq] at hb'
  rw [inRange_nat (show lowN (gd p 0) (gd q 0).int<(gd p 0).rows.length from by omega)]
  rfl
abbrev s_l11GetT:FuncId→List T→Option (T × Bool):=find []
theorem s_l11GetT_ok:CallOk Tryz.prog s_l11GetT:=find_ok (fN)
abbrev s_l11GetK:List Nat:= [0,1,4,5,9,18]
noncomputable def s_l11GetL0 (N:Nat) (p q:List D):List D→Out:=loopOf Tryz.prog s_l11GetT N s_l11GetK Tryz.f109 ri [⟨sd (.sl 176),p⟩,⟨ri,q⟩] 0
theorem s_l11GetR0 (N:Nat) (p q:List D) (x0 x1 x2 x3:D):(s_l11GetL0 N p q) [x0,x1,x2,x3] =
 bif ltI x3.int (x0.rows.length:Int) then nd (inRange x3.int x0.rows.length) (bif (gd (x0.rows.getD x3.int.toNat []) 0).int==x1.int then nd (inRange x3.int x0.rows.length) (some (1,[gd (x0.rows.getD x3.int.toNat []) 1]))
 else nx [x0,x1,x2,.i (w64 (x3.int+1))])
 else ex 0 [x0,x1,x2,x3]:=by kernel_rfl
theorem s_l11Get_ev (N:Nat) (p q:List D):evFn Tryz.prog s_l11GetT N s_l11GetK Tryz.f109 ri [⟨sd (.sl 176),p⟩,⟨ri,q⟩]=some (bo,
 (let o0:=iter (s_l11GetL0 N p q) N [gd p 0,gd q 0,.i 0,.i 0]
  nd o0.isSome (bif o0.code==1 then some (1,o0.pay)
  else nd (o0.code==2) (oi (-1))))):=by kernel_rfl
theorem scan_at {ex:Nat→Option (Nat × List D)} {o:Nat × List D}:∀ (m k i:Nat),i<m→ex (k+i)=some o→(∀ j,j<i→ex (k+j)=none)→scan ex k m=some o
 | 0,_,_,h,_,_=>absurd h (Nat.not_lt_zero _)
 | m+1,k,0,_,h,_=>by rw [scan,show ex k=some o from h]
 | m+1,k,i+1,hi,h,hn=>by
  rw [scan,show ex k=none from hn 0 (by omega)]
  exact scan_at m (k+1) i (by omega) (by rw [show k+1+i=k+(i+1) from by omega]; exact h) fun j hj=>by rw [show k+1+j=k+(j+1) from by omega]; exact hn (j+1) (by omega)
theorem scan_no {ex:Nat→Option (Nat × List D)}:∀ (m k:Nat),(∀ j,j<m→ex (k+j)=none)→scan ex k m=none
 | 0,_,_=>rfl
 | m+1,k,h=>by
  rw [scan,show ex k=none from h 0 (by omega)]
  exact scan_no m (k+1) fun j hj=>by rw [show k+1+j=k+(j+1) from by omega]; exact h (j+1) (by omega)
def s_l11GetE:Ent:=(109,e2 (sd (.sl 176)) ri fun p q=>(⟨ri,[valD (gd p 0) (gd q 0).int]⟩,storeOk (gd p 0)))
theorem s_l11Get_ok:EntOk Tryz.prog s_l11GetE:=e2_ok fun p q h=>evFn_sound (N:=61) (ks:=s_l11GetK) (key:=bo) s_l11GetT_ok (enters Tryz.func109) Tryz.func109 fun hw=>by
 rw [s_l11Get_ev]
 have h:storeOk (gd p 0)=true:=h
 have hz:=store_sorted h
 have hlen:=hz.len
 have e:=iter_scan (step:=s_l11GetL0 61 p q) (fun k => [gd p 0,gd q 0,.i 0,.i (k:Int)]) (fun k=>bif keyAt (gd p 0) k==(gd q 0).int then some (1,[gd ((gd p 0).rows.getD k []) 1]) else none) (2,[gd p 0,gd q 0,.i 0,.i ((gd p 0).rows.length:Int)]) (n:=(gd p 0).rows.length) (fun k hk=>?_) (fun k o h=>?_) ?_ (by simp) (gd p 0).rows.length 0 61 (by omega) (by omega)
 ·simp only [Int.natCast_zero] at e
  rw [e]
  unfold valD
  cases hb:bsB (gd p 0) (gd q 0).int
  ·rw [scan_no _ _ fun j hj=>?_]
   ·rfl
   ·rw [Nat.zero_add]
    cases hk:keyAt (gd p 0) j==(gd q 0).int
    ·rfl
    ·have hk:=eq_of_beq hk
     have hl:lowN (gd p 0) (gd q 0).int=j:=lowN_eq (by omega) (fun k hkj=>by have:=hz.lt k j hkj hj; omega) (fun k h1 h2=>by
      rcases Nat.lt_or_ge j k with h | h
      ·have:=hz.lt j k h h2; omega
      ·obtain rfl:k=j:=by omega
       omega)
     unfold bsB at hb
     rw [hl,ltI_nat hj,hk,beq_self_eq_true] at hb
     cases hb
  ·simp only [bsB,Bool.and_eq_true,ltI,decide_eq_true_eq] at hb
   have hlt:lowN (gd p 0) (gd q 0).int<(gd p 0).rows.length:=by omega
   rw [scan_at _ _ (lowN (gd p 0) (gd q 0).int) hlt (by rw [Nat.zero_add,hb.2]; rfl) fun j hj=>?_]
   ·rfl
   ·rw [Nat.zero_add,show (keyAt (gd p 0) j==(gd q 0).int)=false from beq_eq_false_iff_ne.2 (by
     have:=hz.lt j _ hj hlt
     have:=eq_of_beq hb.2
     omega)]
    rfl
 ·show s_l11GetL0 _ p q [_,_,_,.i (k:Int)]=_
  rw [s_l11GetR0]
  simp only [int_i,c_lt hk,nd_ix hk,w64_succ hk (show (gd p 0).rows.length≤9223372036854775807 from by omega),Int.toNat_natCast]
  rw [show (gd ((gd p 0).rows.getD k []) 0).int=keyAt (gd p 0) k from rfl]
  cases keyAt (gd p 0) k==(gd q 0).int <;> rfl
 ·cases hc:keyAt (gd p 0) k==(gd q 0).int
  ·rw [hc] at h; cases h
  ·rw [hc,cond_true] at h
   injection h with h
   rw [← h]; simp
 ·show s_l11GetL0 _ p q [_,_,_,.i ((gd p 0).rows.length:Int)]=_
  rw [s_l11GetR0]
  simp only [int_i,c_nlt]
end Go.Proofs.YtchceahcaaibcaaGreat
namespace Go.Proofs.YtchceahcaaibcaaGreat
set_option maxRecDepth 4096
set_option maxHeartbeats 1000000
abbrev i_clientRightT:FuncId→List T→Option (T × Bool):=find [i_ClientOkE,cofCPE,cofCSE]
theorem i_clientRightT_ok:CallOk Tryz.prog i_clientRightT:=find_ok (fC ⟨i_ClientOk_ok,fC ⟨cofCP_ok,fC ⟨cofCS_ok,fN⟩⟩⟩)
abbrev i_clientRightK:List Nat:= [0,1,2,3,4]
theorem i_clientRight_ev (N:Nat) (p q:List D):evFn Tryz.prog i_clientRightT N i_clientRightK Tryz.f68 rb [⟨ag rIClient,p⟩,⟨ri,q⟩]=some (bo,
 nd (clientSmall (sub p 0 9)) (bif clientOk (sub p 0 9) then bif ltI (gd p 7).int (gd q 0).int then bif !(anyS (fun rr=>ixfCPC (.l [[.l [[gd q 0]]]]) (sub rr 0 3)) (gd p 8)) then ob (!(anyS (fun rr=>ixfCSC (.l [[.l [[gd q 0]]]]) (sub rr 0 3)) (gd p 4)))
 else ob false
 else ob false
 else ob false)):=by kernel_rfl
def seenIn (z:D) (n:Int):Bool:=(List.range z.rows.length).all fun k => !leI n (gd (z.rows.getD k []) 0).int
def clientRight (p:List D) (n:Int):Bool:=clientOk p&&(ltI (gd p 7).int n&&(ownersIn (gd p 8) n&&seenIn (gd p 4) n))
theorem owners_any (z q:D):(!(anyS (fun rr=>ixfCPC (.l [[.l [[q]]]]) (sub rr 0 3)) z))=ownersIn z q.int:=by
 unfold anyS ownersIn
 rw [← not_any]
 rfl
theorem seen_anyIn (z q:D):(!(anyS (fun rr=>ixfCSC (.l [[.l [[q]]]]) (sub rr 0 3)) z))=seenIn z q.int:=by
 unfold anyS seenIn
 rw [← not_any]
 rfl
def i_clientRightE:Ent:=(68,e2 (ag rIClient) ri fun p q=>(⟨rb,[.b (clientRight p (gd q 0).int)]⟩,clientSmall p))
theorem i_clientRight_ok:EntOk Tryz.prog i_clientRightE:=e2_ok fun p q h=>evFn_sound (N:=0) (ks:=i_clientRightK) (key:=bo) i_clientRightT_ok (enters Tryz.func68) Tryz.func68 fun hw=>by
 rw [i_clientRight_ev]
 rw [owners_any,seen_anyIn]
 have h:clientSmall p=true:=h
 rw [show clientSmall (sub p 0 9)=clientSmall p from rfl,h,nd_true,show clientOk (sub p 0 9)=clientOk p from rfl]
 unfold clientRight
 cases clientOk p <;> cases ltI (gd p 7).int (gd q 0).int <;> cases ownersIn (gd p 8) (gd q 0).int <;> cases seenIn (gd p 4) (gd q 0).int <;> rfl
abbrev s_l16ClientsOkT:FuncId→List T→Option (T × Bool):=find [s_ClientOkE,s_l16OwnersInE]
theorem s_l16ClientsOkT_ok:CallOk Tryz.prog s_l16ClientsOkT:=find_ok (fC ⟨s_ClientOk_ok,fC ⟨s_l16OwnersIn_ok,fN⟩⟩)
abbrev s_l16ClientsOkK:List Nat:= [0,1,2,3,4,5,6,14,37,42,52]
noncomputable def s_l16ClientsOkL0 (N:Nat) (p:List D):List D→Out:=loopOf Tryz.prog s_l16ClientsOkT N s_l16ClientsOkK Tryz.f50 rb [⟨ag rITown,p⟩] 0
noncomputable def s_l16ClientsOkL2 (N:Nat) (p:List D):List D→Out:=loopOf Tryz.prog s_l16ClientsOkT N s_l16ClientsOkK Tryz.f50 rb [⟨ag rITown,p⟩] 2
theorem s_l16ClientsOkR0 (N:Nat) (p:List D) (x0 x1 x2 x3 x4 x5 x6 x7 x8 x9 x10 x11 x12 x13 x14 x15 x16 x17 x18 x19 x20 x21 x22 x23 x24 x25 x26 x27 x28 x29 x30 x31 x32 x33:D):(s_l16ClientsOkL0 N p) [x0,x1,x2,x3,x4,x5,x6,x7,x8,x9,x10,x11,x12,x13,x14,x15,x16,x17,x18,x19,x20,x21,x22,x23,x24,x25,x26,x27,x28,x29,x30,x31,x32,x33] =
 bif ltI x18.int (x31.rows.length:Int) then nd (inRange x18.int x31.rows.length) (bif !(clientOk (sub (x31.rows.getD x18.int.toNat []) 0 9)) then ob false
 else bif !(ownersIn (gd (x31.rows.getD x18.int.toNat []) 8) x17.int) then ob false
 else bif leI x17.int (gd (x31.rows.getD x18.int.toNat []) 7).int then ob false
 else (let o2:=iter (s_l16ClientsOkL2 N p) N [x0,x1,x2,x3,x4,x5,x6,x7,x8,x9,x10,x11,x12,x13,x14,x15,x16,x17,x18,.b (ltI x18.int (x31.rows.length:Int)),.i 0,.b (leI x17.int (gd (x31.rows.getD x18.int.toNat []) 7).int),.i 0,x19,x20,x21,x22,x23,x24,x25,x26,x27,x28,x29,x30,x31,x32,x33,gd (x31.rows.getD x18.int.toNat []) 0,gd (x31.rows.getD x18.int.toNat []) 1,gd (x31.rows.getD x18.int.toNat []) 2,gd (x31.rows.getD x18.int.toNat []) 3,gd (x31.rows.getD x18.int.toNat []) 4,gd (x31.rows.getD x18.int.toNat []) 5,gd (x31.rows.getD x18.int.toNat []) 6,gd (x31.rows.getD x18.int.toNat []) 7,gd (x31.rows.getD x18.int.toNat []) 8]
  nd o2.isSome (bif o2.code==1 then some (1,o2.pay)
  else nd (o2.code==4) (nx [gd o2.pay 0,gd o2.pay 1,gd o2.pay 2,gd o2.pay 3,gd o2.pay 4,gd o2.pay 5,gd o2.pay 6,gd o2.pay 7,gd o2.pay 8,gd o2.pay 9,gd o2.pay 10,gd o2.pay 11,gd o2.pay 12,gd o2.pay 13,gd o2.pay 14,gd o2.pay 15,gd o2.pay 16,gd o2.pay 17,.i (w64 ((gd o2.pay 18).int+1)),gd o2.pay 23,gd o2.pay 24,gd o2.pay 25,gd o2.pay 26,gd o2.pay 27,gd o2.pay 28,gd o2.pay 29,gd o2.pay 30,gd o2.pay 31,gd o2.pay 32,gd o2.pay 33,gd o2.pay 34,gd o2.pay 35,gd o2.pay 36,gd o2.pay 37]))))
 else ex 0 [x0,x1,x2,x3,x4,x5,x6,x7,x8,x9,x10,x11,x12,x13,x14,x15,x16,x17,x18,x19,x20,x21,x22,x23,x24,x25,x26,x27,x28,x29,x30,x31,x32,x33]:=by kernel_rfl
theorem s_l16ClientsOkR2 (N:Nat) (p:List D) (x0 x1 x2 x3 x4 x5 x6 x7 x8 x9 x10 x11 x12 x13 x14 x15 x16 x17 x18 x19 x20 x21 x22 x23 x24 x25 x26 x27 x28 x29 x30 x31 x32 x33 x34 x35 x36 x37 x38 x39 x40 x41 x42 x43 x44 x45 x46:D):(s_l16ClientsOkL2 N p) [x0,x1,x2,x3,x4,x5,x6,x7,x8,x9,x10,x11,x12,x13,x14,x15,x16,x17,x18,x19,x20,x21,x22,x23,x24,x25,x26,x27,x28,x29,x30,x31,x32,x33,x34,x35,x36,x37,x38,x39,x40,x41,x42,x43,x44,x45,x46] =
 bif ltI x22.int (x42.rows.length:Int) then nd (inRange x22.int x42.rows.length) (bif leI x17.int (gd (x42.rows.getD x22.int.toNat []) 0).int then ob false
 else nx [x0,x1,x2,x3,x4,x5,x6,x7,x8,x9,x10,x11,x12,x13,x14,x15,x16,x17,x18,x19,x20,x21,.i (w64 (x22.int+1)),x23,x24,x25,x26,x27,x28,x29,x30,x31,x32,x33,x34,x35,x36,x37,x38,x39,x40,x41,x42,x43,x44,x45,x46])
 else ex 2 [x0,x1,x2,x3,x4,x5,x6,x7,x8,x9,x10,x11,x12,x13,x14,x15,x16,x17,x18,x19,x20,x21,x22,x23,x24,x25,x26,x27,x28,x29,x30,x31,x32,x33,x34,x35,x36,x37,x38,x39,x40,x41,x42,x43,x44,x45,x46]:=by kernel_rfl
theorem s_l16ClientsOk_ev (N:Nat) (p:List D):evFn Tryz.prog s_l16ClientsOkT N s_l16ClientsOkK Tryz.f50 rb [⟨ag rITown,p⟩]=some (bo,
 (let o0:=iter (s_l16ClientsOkL0 N p) N [gd p 0,gd p 1,gd p 2,gd p 3,gd p 4,gd p 5,gd p 6,gd p 7,gd p 8,gd p 9,gd p 10,gd p 11,gd p 12,gd p 13,gd p 14,.i 0,.i 0,.i ((gd p 9).rows.length:Int),.i 0,gd p 0,gd p 1,gd p 2,gd p 3,gd p 4,gd p 5,gd p 6,gd p 7,gd p 8,gd p 9,gd p 10,gd p 11,gd p 12,gd p 13,gd p 14]
  nd o0.isSome (bif o0.code==1 then some (1,o0.pay)
  else nd (o0.code==2) (ob true)))):=by kernel_rfl
def clientsOk (z:D) (n:Int):Bool:=(List.range z.rows.length).all fun k=>clientRight (z.rows.getD k []) n
theorem leI_not (a b:Int):leI a b = !ltI b a:=by
 rw [Bool.eq_iff_iff]; simp only [leI,ltI,decide_eq_true_eq,Bool.not_eq_true',decide_eq_false_iff_not]; omega
theorem client_seen {p:List D} (h:clientOk p=true):(gd p 4).rows.length≤16:=by
 unfold clientOk at h
 simp only [Bool.and_eq_true] at h
 have h:=h.2.2.2
 cases hc:ltI (gd p 0).int 2
 ·rw [hc,cond_false] at h
  simp only [clientBusy,seenOk,Bool.and_eq_true,leI,decide_eq_true_eq] at h
  omega
 ·rw [hc,cond_true] at h
  simp only [clientIdle,Bool.and_eq_true,beq_iff_eq] at h
  omega
theorem clients_in (p:List D) (N k:Nat) (b1 b2:D) (hN:17≤N) (h:(gd ((gd p 12).rows.getD k []) 4).rows.length≤16):iter (s_l16ClientsOkL2 N p) N [gd p 0,gd p 1,gd p 2,gd p 3,gd p 4,gd p 5,gd p 6,gd p 7,gd p 8,gd p 9,gd p 10,gd p 11,gd p 12,gd p 13,gd p 14,.i 0,.i 0,.i ((gd p 9).rows.length:Int),.i (k:Int),b1,.i 0,b2,.i 0,gd p 0,gd p 1,gd p 2,gd p 3,gd p 4,gd p 5,gd p 6,gd p 7,gd p 8,gd p 9,gd p 10,gd p 11,gd p 12,gd p 13,gd p 14,gd ((gd p 12).rows.getD k []) 0,gd ((gd p 12).rows.getD k []) 1,gd ((gd p 12).rows.getD k []) 2,gd ((gd p 12).rows.getD k []) 3,gd ((gd p 12).rows.getD k []) 4,gd ((gd p 12).rows.getD k []) 5,gd ((gd p 12).rows.getD k []) 6,gd ((gd p 12).rows.getD k []) 7,gd ((gd p 12).rows.getD k []) 8]=some (bif seenIn (gd ((gd p 12).rows.getD k []) 4) ((gd p 9).rows.length:Int) then (4,[gd p 0,gd p 1,gd p 2,gd p 3,gd p 4,gd p 5,gd p 6,gd p 7,gd p 8,gd p 9,gd p 10,gd p 11,gd p 12,gd p 13,gd p 14,.i 0,.i 0,.i ((gd p 9).rows.length:Int),.i (k:Int),b1,.i 0,b2,.i ((gd ((gd p 12).rows.getD k []) 4).rows.length:Int),gd p 0,gd p 1,gd p 2,gd p 3,gd p 4,gd p 5,gd p 6,gd p 7,gd p 8,gd p 9,gd p 10,gd p 11,gd p 12,gd p 13,gd p 14,gd ((gd p 12).rows.getD k []) 0,gd ((gd p 12).rows.getD k []) 1,gd ((gd p 12).rows.getD k []) 2,gd ((gd p 12).rows.getD k []) 3,gd ((gd p 12).rows.getD k []) 4,gd ((gd p 12).rows.getD k []) 5,gd ((gd p 12).rows.getD k []) 6,gd ((gd p 12).rows.getD k []) 7,gd ((gd p 12).rows.getD k []) 8]) else (1,[.b false])):=by
 have e:=for_loop (L:=s_l16ClientsOkL2 N p) (fun j => [gd p 0,gd p 1,gd p 2,gd p 3,gd p 4,gd p 5,gd p 6,gd p 7,gd p 8,gd p 9,gd p 10,gd p 11,gd p 12,gd p 13,gd p 14,.i 0,.i 0,.i ((gd p 9).rows.length:Int),.i (k:Int),b1,.i 0,b2,.i (j:Int),gd p 0,gd p 1,gd p 2,gd p 3,gd p 4,gd p 5,gd p 6,gd p 7,gd p 8,gd p 9,gd p 10,gd p 11,gd p 12,gd p 13,gd p 14,gd ((gd p 12).rows.getD k []) 0,gd ((gd p 12).rows.getD k []) 1,gd ((gd p 12).rows.getD k []) 2,gd ((gd p 12).rows.getD k []) 3,gd ((gd p 12).rows.getD k []) 4,gd ((gd p 12).rows.getD k []) 5,gd ((gd p 12).rows.getD k []) 6,gd ((gd p 12).rows.getD k []) 7,gd ((gd p 12).rows.getD k []) 8]) (gd ((gd p 12).rows.getD k []) 4).rows.length (fun j => !leI ((gd p 9).rows.length:Int) (gd ((gd ((gd p 12).rows.getD k []) 4).rows.getD j []) 0).int) [.b false] 2 (fun j hj=>?_) ?_ (N:=N) (by omega)
 ·simp only [Int.natCast_zero] at e
  exact e
 ·show s_l16ClientsOkL2 _ p [_,_,_,_,_,_,_,_,_,_,_,_,_,_,_,_,_,_,_,_,_,_,.i (j:Int),_,_,_,_,_,_,_,_,_,_,_,_,_,_,_,_,_,_,_,_,_,_,_,_]=_
  rw [s_l16ClientsOkR2]
  simp only [int_i,c_lt hj,nd_ix hj,w64_succ hj (show (gd ((gd p 12).rows.getD k []) 4).rows.length≤9223372036854775807 from by omega),Int.toNat_natCast]
  cases leI ((gd p 9).rows.length:Int) (gd ((gd ((gd p 12).rows.getD k []) 4).rows.getD j []) 0).int <;> rfl
 ·show s_l16ClientsOkL2 _ p [_,_,_,_,_,_,_,_,_,_,_,_,_,_,_,_,_,_,_,_,_,_,.i ((gd ((gd p 12).rows.getD k []) 4).rows.length:Int),_,_,_,_,_,_,_,_,_,_,_,_,_,_,_,_,_,_,_,_,_,_,_,_]=_
  rw [s_l16ClientsOkR2]
  simp only [int_i,c_nlt]
def s_l16ClientsOkE:Ent:=(50,e1 (ag rITown) fun p=>(⟨rb,[.b (clientsOk (gd p 12) ((gd p 9).rows.length:Int))]⟩,true))
theorem s_l16ClientsOk_ok:EntOk Tryz.prog s_l16ClientsOkE:=e1_ok fun p h=>evFn_sound (N:=(gd p 12).rows.length+17) (ks:=s_l16ClientsOkK) (key:=bo) s_l16ClientsOkT_ok (enters Tryz.func50) Tryz.func50 fun hw=>by
 rw [s_l16ClientsOk_ev]
 have hl:=wt_at (hw ⟨ag rITown,p⟩ (by simp)) (j:=12) rfl
 have e:=for_loop (L:=s_l16ClientsOkL0 ((gd p 12).rows.length+17) p) (fun k => [gd p 0,gd p 1,gd p 2,gd p 3,gd p 4,gd p 5,gd p 6,gd p 7,gd p 8,gd p 9,gd p 10,gd p 11,gd p 12,gd p 13,gd p 14,.i 0,.i 0,.i ((gd p 9).rows.length:Int),.i (k:Int),gd p 0,gd p 1,gd p 2,gd p 3,gd p 4,gd p 5,gd p 6,gd p 7,gd p 8,gd p 9,gd p 10,gd p 11,gd p 12,gd p 13,gd p 14]) (gd p 12).rows.length (fun k=>clientRight ((gd p 12).rows.getD k []) ((gd p 9).rows.length:Int)) [.b false] 0 (fun k hk=>?_) ?_ (N:=(gd p 12).rows.length+17) (by omega)
 ·simp only [Int.natCast_zero] at e
  rw [e]
  unfold clientsOk
  cases (List.range (gd p 12).rows.length).all fun k=>clientRight ((gd p 12).rows.getD k []) ((gd p 9).rows.length:Int) <;> rfl
 ·show s_l16ClientsOkL0 _ p [_,_,_,_,_,_,_,_,_,_,_,_,_,_,_,_,_,_,.i (k:Int),_,_,_,_,_,_,_,_,_,_,_,_,_,_,_]=_
  rw [s_l16ClientsOkR0]
  simp only [int_i,c_lt hk,nd_ix hk,Int.toNat_natCast]
  rw [show clientOk (sub ((gd p 12).rows.getD k []) 0 9)=clientOk ((gd p 12).rows.getD k []) from rfl]
  unfold clientRight
  cases hc:clientOk ((gd p 12).rows.getD k [])
  ·rfl
  cases ho:ownersIn (gd ((gd p 12).rows.getD k []) 8) ((gd p 9).rows.length:Int)
  ·cases ltI (gd ((gd p 12).rows.getD k []) 7).int ((gd p 9).rows.length:Int) <;> rfl
  rw [leI_not]
  cases ht:ltI (gd ((gd p 12).rows.getD k []) 7).int ((gd p 9).rows.length:Int)
  ·rfl
  simp only [Bool.not_true,cond_false]
  rw [clients_in p _ k _ _ (by omega) (client_seen hc)]
  cases seenIn (gd ((gd p 12).rows.getD k []) 4) ((gd p 9).rows.length:Int)
  ·rfl
  ·simp only [nd,cond_true,cond_false,Option.isSome_some,Out.code,Out.pay,Option.getD_some,gd_cons_zero,gd_cons_succ,Nat.reduceBEq,Nat.reduceAdd,int_i,w64_succ hk hl]
   rfl
 ·show s_l16ClientsOkL0 _ p [_,_,_,_,_,_,_,_,_,_,_,_,_,_,_,_,_,_,.i ((gd p 12).rows.length:Int),_,_,_,_,_,_,_,_,_,_,_,_,_,_,_]=_
  rw [s_l16ClientsOkR0]
  simp only [int_i,c_nlt]
abbrev i_StoreNewT:FuncId→List T→Option (T × Bool):=find [i_StoreOkE,i_WritesOkE,i_valueOfE]
theorem i_StoreNewT_ok:CallOk Tryz.prog i_StoreNewT:=find_ok (fC ⟨i_StoreOk_ok,fC ⟨i_WritesOk_ok,fC ⟨i_valueOf_ok,fN⟩⟩⟩)
abbrev i_StoreNewK:List Nat:= [0,1,4,5,7,15,16,17,18,19,31]
noncomputable def i_StoreNewL0 (N:Nat) (p q:List D):List D→Out:=loopOf Tryz.prog i_StoreNewT N i_StoreNewK Tryz.f270 ri [⟨sd (.sl 176),p⟩,⟨sd (.sl 132),q⟩] 0
theorem i_StoreNewR0 (N:Nat) (p q:List D) (x0 x1 x2 x3 x4 x5 x6 x7:D):(i_StoreNewL0 N p q) [x0,x1,x2,x3,x4,x5,x6,x7] =
 bif ltI x7.int x6.int then nd (inRange x7.int x5.rows.length) (bif (gd (x5.rows.getD x7.int.toNat []) 1).int != (-1) then nd (storeOk x0&&inB (gd (x5.rows.getD x7.int.toNat []) 0).int 0 999) (bif ltI (valD x0 (gd (x5.rows.getD x7.int.toNat []) 0).int).int 0 then nx [x0,x1,x2,x3,.i (w64 (x4.int+1)),x5,x6,.i (w64 (x7.int+1))]
 else nx [x0,x1,x2,x3,x4,x5,x6,.i (w64 (x7.int+1))])
 else nx [x0,x1,x2,x3,x4,x5,x6,.i (w64 (x7.int+1))])
 else ex 0 [x0,x1,x2,x3,x4,x5,x6,x7]:=by kernel_rfl
theorem i_StoreNew_ev (N:Nat) (p q:List D):evFn Tryz.prog i_StoreNewT N i_StoreNewK Tryz.f270 ri [⟨sd (.sl 176),p⟩,⟨sd (.sl 132),q⟩]=some (bo,
 bif !(storeOk (gd p 0)) then oi (-1)
 else bif !(writesOk (gd q 0)) then oi (-1)
 else (let o0:=iter (i_StoreNewL0 N p q) N [gd p 0,gd q 0,.i 0,.b (!(writesOk (gd q 0))),.i 0,gd q 0,.i ((gd q 0).rows.length:Int),.i 0]
  nd o0.isSome (nd (o0.code==2) (some (1,[gd o0.pay 4]))))):=by kernel_rfl
def newAt (z w:D) (k:Nat):Bool:=leI 0 (gd (w.rows.getD k []) 1).int&&ltI (valD z (gd (w.rows.getD k []) 0).int).int 0
def storeNew (z w:D):Int:=bif storeOk z then bif writesOk w then (cnt (newAt z w) 0 w.rows.length:Int) else -1 else -1
theorem write_at {w:D} (h:writesOk w=true) {k:Nat} (hk:k<w.rows.length):w.rows.length≤60∧inB (gd (w.rows.getD k []) 0).int 0 999=true∧((gd (w.rows.getD k []) 1).int != (-1))=leI 0 (gd (w.rows.getD k []) 1).int:=by
 simp only [writesOk,Bool.and_eq_true,List.all_eq_true,List.mem_range,decide_eq_true_eq] at h
 obtain ⟨hl,h⟩:=h
 have:=h k hk
 simp only [writeAt,Bool.and_eq_true] at this
 refine ⟨by omega,this.1,?_⟩
 have h2:=this.2.1
 simp only [inB,Bool.and_eq_true,decide_eq_true_eq] at h2
 rw [Bool.eq_iff_iff]
 simp only [bne_iff_ne,ne_eq,leI,decide_eq_true_eq]
 omega
theorem writes_len60 {w:D} (h:writesOk w=true):w.rows.length≤60:=by
 simp only [writesOk,Bool.and_eq_true,decide_eq_true_eq] at h
 omega
theorem new_step (z w:D) (k:Nat) (h:k<1000):(cnt (newAt z w) 0 (k+1):Int)=bif newAt z w k then w64 ((cnt (newAt z w) 0 k:Int)+1) else (cnt (newAt z w) 0 k:Int):=by
 have:=cnt_le (newAt z w) k 0
 rw [cnt_succ,Nat.zero_add]
 cases newAt z w k
 ·rfl
 ·rw [cond_true,cond_true,w64_id (by omega) (by omega)]; omega
def i_StoreNewE:Ent:=(270,e2 (sd (.sl 176)) (sd (.sl 132)) fun p q=>(⟨ri,[.i (storeNew (gd p 0) (gd q 0))]⟩,true))
theorem i_StoreNew_ok:EntOk Tryz.prog i_StoreNewE:=e2_ok fun p q h=>evFn_sound (N:=61) (ks:=i_StoreNewK) (key:=bo) i_StoreNewT_ok (enters Tryz.func270) Tryz.func270 fun hw=>by
 rw [i_StoreNew_ev]
 unfold storeNew
 cases hz:storeOk (gd p 0)
 ·rfl
 cases hw:writesOk (gd q 0)
 ·rfl
 have hlen:=writes_len60 hw
 simp only [Bool.not_true,cond_false,cond_true]
 have e:=run_loop (L:=i_StoreNewL0 61 p q) (fun k => [gd p 0,gd q 0,.i 0,.b false,.i (cnt (newAt (gd p 0) (gd q 0)) 0 k:Int),gd q 0,.i ((gd q 0).rows.length:Int),.i (k:Int)]) (gd q 0).rows.length 0 (fun k hk=>?_) ?_ (N:=61) (by omega)
 ·simp only [Int.natCast_zero,cnt_zero] at e
  rw [e]
  rfl
 ·show i_StoreNewL0 _ p q [_,_,_,_,_,_,_,.i (k:Int)]=_
  rw [i_StoreNewR0]
  obtain ⟨_,hk2,hk3⟩:=write_at hw hk
  simp only [int_i,c_lt hk,nd_ix hk,w64_succ hk (show (gd q 0).rows.length≤9223372036854775807 from by omega),Int.toNat_natCast]
  rw [hz,hk2,hk3,new_step _ _ _ (show k<1000 from by omega)]
  unfold newAt
  cases leI 0 (gd ((gd q 0).rows.getD k []) 1).int <;> cases ltI (valD (gd p 0) (gd ((gd q 0).rows.getD k []) 0).int).int 0 <;> rfl
 ·show i_StoreNewL0 _ p q [_,_,_,_,_,_,.i ((gd q 0).rows.length:Int),.i ((gd q 0).rows.length:Int)]=_
  rw [i_StoreNewR0]
  simp only [int_i,c_nlt]
abbrev s_StoreNewT:FuncId→List T→Option (T × Bool):=find [s_StoreOkE,s_WritesOkE,s_l11GetE]
theorem s_StoreNewT_ok:CallOk Tryz.prog s_StoreNewT:=find_ok (fC ⟨s_StoreOk_ok,fC ⟨s_WritesOk_ok,fC ⟨s_l11Get_ok,fN⟩⟩⟩)
abbrev s_StoreNewK:List Nat:= [0,1,4,5,6,14,18,36]
noncomputable def s_StoreNewL0 (N:Nat) (p q:List D):List D→Out:=loopOf Tryz.prog s_StoreNewT N s_StoreNewK Tryz.f243 ri [⟨sd (.sl 176),p⟩,⟨sd (.sl 132),q⟩] 0
theorem s_StoreNewR0 (N:Nat) (p q:List D) (x0 x1 x2 x3 x4 x5:D):(s_StoreNewL0 N p q) [x0,x1,x2,x3,x4,x5] =
 bif ltI x5.int (x1.rows.length:Int) then nd (inRange x5.int x1.rows.length) (bif leI 0 (gd (x1.rows.getD x5.int.toNat []) 1).int then nd (inRange x5.int x1.rows.length) (nd (storeOk x0) (bif ltI (valD x0 (gd (x1.rows.getD x5.int.toNat []) 0).int).int 0 then nx [x0,x1,x2,x3,.i (w64 (x4.int+1)),.i (w64 (x5.int+1))]
 else nx [x0,x1,x2,x3,x4,.i (w64 (x5.int+1))]))
 else nx [x0,x1,x2,x3,x4,.i (w64 (x5.int+1))])
 else ex 0 [x0,x1,x2,x3,x4,x5]:=by kernel_rfl
theorem s_StoreNew_ev (N:Nat) (p q:List D):evFn Tryz.prog s_StoreNewT N s_StoreNewK Tryz.f243 ri [⟨sd (.sl 176),p⟩,⟨sd (.sl 132),q⟩]=some (bo,
 bif !(storeOk (gd p 0)) then oi (-1)
 else bif !(writesOk (gd q 0)) then oi (-1)
 else (let o0:=iter (s_StoreNewL0 N p q) N [gd p 0,gd q 0,.i 0,.b (!(writesOk (gd q 0))),.i 0,.i 0]
  nd o0.isSome (nd (o0.code==2) (some (1,[gd o0.pay 4]))))):=by kernel_rfl
def s_StoreNewE:Ent:=(243,e2 (sd (.sl 176)) (sd (.sl 132)) fun p q=>(⟨ri,[.i (storeNew (gd p 0) (gd q 0))]⟩,true))
theorem s_StoreNew_ok:EntOk Tryz.prog s_StoreNewE:=e2_ok fun p q h=>evFn_sound (N:=61) (ks:=s_StoreNewK) (key:=bo) s_StoreNewT_ok (enters Tryz.func243) Tryz.func243 fun hw=>by
 rw [s_StoreNew_ev]
 unfold storeNew
 cases hz:storeOk (gd p 0)
 ·rfl
 cases hw:writesOk (gd q 0)
 ·rfl
 have hlen:=writes_len60 hw
 simp only [Bool.not_true,cond_false,cond_true]
 have e:=run_loop (L:=s_StoreNewL0 61 p q) (fun k => [gd p 0,gd q 0,.i 0,.b false,.i (cnt (newAt (gd p 0) (gd q 0)) 0 k:Int),.i (k:Int)]) (gd q 0).rows.length 0 (fun k hk=>?_) ?_ (N:=61) (by omega)
 ·simp only [Int.natCast_zero,cnt_zero] at e
  rw [e]
  rfl
 ·show s_StoreNewL0 _ p q [_,_,_,_,_,.i (k:Int)]=_
  rw [s_StoreNewR0]
  simp only [int_i,c_lt hk,nd_ix hk,w64_succ hk (show (gd q 0).rows.length≤9223372036854775807 from by omega),Int.toNat_natCast]
  rw [hz,nd_true,new_step _ _ _ (show k<1000 from by omega)]
  unfold newAt
  cases leI 0 (gd ((gd q 0).rows.getD k []) 1).int <;> cases ltI (valD (gd p 0) (gd ((gd q 0).rows.getD k []) 0).int).int 0 <;> rfl
 ·show s_StoreNewL0 _ p q [_,_,_,_,_,.i ((gd q 0).rows.length:Int)]=_
  rw [s_StoreNewR0]
  simp only [int_i,c_nlt]
end Go.Proofs.YtchceahcaaibcaaGreat
namespace Go.Proofs.YtchceahcaaibcaaGreat
set_option maxRecDepth 4096
set_option maxHeartbeats 1000000
abbrev i_roomT:FuncId→List T→Option (T × Bool):=find [i_StoreNewE]
theorem i_roomT_ok:CallOk Tryz.prog i_roomT:=find_ok (fC ⟨i_StoreNew_ok,fN⟩)
abbrev i_roomK:List Nat:= [0,1,2,3,5,10,11,12,13]
noncomputable def i_roomL0 (N:Nat) (p:List D):List D→Out:=loopOf Tryz.prog i_roomT N i_roomK Tryz.f177 ri [⟨ag rIShard,p⟩] 0
theorem i_roomR0 (N:Nat) (p:List D) (x0 x1 x2 x3 x4 x5 x6 x7 x8 x9 x10 x11 x12 x13 x14 x15 x16 x17 x18 x19 x20 x21 x22 x23:D):(i_roomL0 N p) [x0,x1,x2,x3,x4,x5,x6,x7,x8,x9,x10,x11,x12,x13,x14,x15,x16,x17,x18,x19,x20,x21,x22,x23] =
 bif ltI x14.int x13.int then nd (inRange x14.int x12.rows.length) (nx [x0,x1,x2,x3,x4,x5,x6,x7,x8,x9,x10,.i (w64 (x11.int+(storeNew x18 (gd (x12.rows.getD x14.int.toNat []) 1)))),x12,x13,.i (w64 (x14.int+1)),x15,x16,x17,x18,x19,x20,x21,x22,x23])
 else ex 0 [x0,x1,x2,x3,x4,x5,x6,x7,x8,x9,x10,x11,x12,x13,x14,x15,x16,x17,x18,x19,x20,x21,x22,x23]:=by kernel_rfl
theorem i_room_ev (N:Nat) (p:List D):evFn Tryz.prog i_roomT N i_roomK Tryz.f177 ri [⟨ag rIShard,p⟩]=some (bo,
 (let o0:=iter (i_roomL0 N p) N [gd p 0,gd p 1,gd p 2,gd p 3,gd p 4,gd p 5,gd p 6,gd p 7,gd p 8,.i 0,.i 0,.i ((gd p 3).rows.length:Int),gd p 5,.i ((gd p 5).rows.length:Int),.i 0,gd p 0,gd p 1,gd p 2,gd p 3,gd p 4,gd p 5,gd p 6,gd p 7,gd p 8]
  nd o0.isSome (nd (o0.code==2) (some (1,[gd o0.pay 11]))))):=by kernel_rfl
def newSum (c hs:D):Nat→Int
 | 0=>0
 | k+1=>newSum c hs k+storeNew c (gd (hs.rows.getD k []) 1)
def roomOf (p:List D):Int:=((gd p 3).rows.length:Int)+newSum (gd p 3) (gd p 5) (gd p 5).rows.length
theorem storeNew_in (c w:D) : -1≤storeNew c w∧storeNew c w≤60:=by
 unfold storeNew
 cases storeOk c
 ·simp only [cond_false]; omega
 cases h:writesOk w
 ·simp only [cond_true,cond_false]; omega
 have h1:=writes_len60 h
 have h2:=cnt_le (newAt c w) w.rows.length 0
 simp only [cond_true]
 omega
theorem newSum_in (c hs:D):∀ k:Nat,-(k:Int)≤newSum c hs k∧newSum c hs k≤60*(k:Int)
 | 0=>⟨by simp only [newSum]; omega,by simp only [newSum]; omega⟩
 | k+1=>by
  have h1:=newSum_in c hs k
  have h2:=storeNew_in c (gd (hs.rows.getD k []) 1)
  simp only [newSum]
  omega
def i_roomE:Ent:=(177,e1 (ag rIShard) fun p=>(⟨ri,[.i (roomOf p)]⟩,leI ((gd p 3).rows.length:Int) 1000000000&&leI ((gd p 5).rows.length:Int) 1000000000))
theorem i_room_ok:EntOk Tryz.prog i_roomE:=e1_ok fun p h=>evFn_sound (N:=(gd p 5).rows.length+1) (ks:=i_roomK) (key:=bo) i_roomT_ok (enters Tryz.func177) Tryz.func177 fun hw=>by
 rw [i_room_ev]
 have h:(leI ((gd p 3).rows.length:Int) 1000000000&&leI ((gd p 5).rows.length:Int) 1000000000)=true:=h
 simp only [Bool.and_eq_true,leI,decide_eq_true_eq] at h
 have e:=run_loop (L:=i_roomL0 ((gd p 5).rows.length+1) p) (fun k => [gd p 0,gd p 1,gd p 2,gd p 3,gd p 4,gd p 5,gd p 6,gd p 7,gd p 8,.i 0,.i 0,.i (((gd p 3).rows.length:Int)+newSum (gd p 3) (gd p 5) k),gd p 5,.i ((gd p 5).rows.length:Int),.i (k:Int),gd p 0,gd p 1,gd p 2,gd p 3,gd p 4,gd p 5,gd p 6,gd p 7,gd p 8]) (gd p 5).rows.length 0 (fun k hk=>?_) ?_ (N:=(gd p 5).rows.length+1) (by omega)
 ·simp only [Int.natCast_zero,newSum,Int.add_zero] at e
  rw [e]
  rfl
 ·show i_roomL0 _ p [_,_,_,_,_,_,_,_,_,_,_,_,_,_,.i (k:Int),_,_,_,_,_,_,_,_,_]=_
  rw [i_roomR0]
  have h1:=newSum_in (gd p 3) (gd p 5) k
  have h2:=storeNew_in (gd p 3) (gd ((gd p 5).rows.getD k []) 1)
  simp only [int_i,c_lt hk,nd_ix hk,w64_succ hk (show (gd p 5).rows.length≤9223372036854775807 from by omega),Int.toNat_natCast]
  rw [w64_id (by omega) (by omega),Int.add_assoc]
  rfl
 ·show i_roomL0 _ p [_,_,_,_,_,_,_,_,_,_,_,_,_,.i ((gd p 5).rows.length:Int),.i ((gd p 5).rows.length:Int),_,_,_,_,_,_,_,_,_]=_
  rw [i_roomR0]
  simp only [int_i,c_nlt]
abbrev s_l13NewT:FuncId→List T→Option (T × Bool):=find [s_StoreNewE]
theorem s_l13NewT_ok:CallOk Tryz.prog s_l13NewT:=find_ok (fC ⟨s_StoreNew_ok,fN⟩)
abbrev s_l13NewK:List Nat:= [0,1,2,3,4,9]
noncomputable def s_l13NewL0 (N:Nat) (p:List D):List D→Out:=loopOf Tryz.prog s_l13NewT N s_l13NewK Tryz.f138 ri [⟨ag rIShard,p⟩] 0
theorem s_l13NewR0 (N:Nat) (p:List D) (x0 x1 x2 x3 x4 x5 x6 x7 x8 x9 x10 x11 x12 x13 x14 x15 x16 x17 x18 x19 x20 x21:D):(s_l13NewL0 N p) [x0,x1,x2,x3,x4,x5,x6,x7,x8,x9,x10,x11,x12,x13,x14,x15,x16,x17,x18,x19,x20,x21] =
 bif ltI x12.int (x18.rows.length:Int) then nd (inRange x12.int x18.rows.length) (nx [x0,x1,x2,x3,x4,x5,x6,x7,x8,x9,x10,.i (w64 (x11.int+(storeNew x16 (gd (x18.rows.getD x12.int.toNat []) 1)))),.i (w64 (x12.int+1)),x13,x14,x15,x16,x17,x18,x19,x20,x21])
 else ex 0 [x0,x1,x2,x3,x4,x5,x6,x7,x8,x9,x10,x11,x12,x13,x14,x15,x16,x17,x18,x19,x20,x21]:=by kernel_rfl
theorem s_l13New_ev (N:Nat) (p:List D):evFn Tryz.prog s_l13NewT N s_l13NewK Tryz.f138 ri [⟨ag rIShard,p⟩]=some (bo,
 (let o0:=iter (s_l13NewL0 N p) N [gd p 0,gd p 1,gd p 2,gd p 3,gd p 4,gd p 5,gd p 6,gd p 7,gd p 8,.i 0,.i 0,.i 0,.i 0,gd p 0,gd p 1,gd p 2,gd p 3,gd p 4,gd p 5,gd p 6,gd p 7,gd p 8]
  nd o0.isSome (nd (o0.code==2) (some (1,[gd o0.pay 11]))))):=by kernel_rfl
def s_l13NewE:Ent:=(138,e1 (ag rIShard) fun p=>(⟨ri,[.i (newSum (gd p 3) (gd p 5) (gd p 5).rows.length)]⟩,leI ((gd p 5).rows.length:Int) 1000000000))
theorem s_l13New_ok:EntOk Tryz.prog s_l13NewE:=e1_ok fun p h=>evFn_sound (N:=(gd p 5).rows.length+1) (ks:=s_l13NewK) (key:=bo) s_l13NewT_ok (enters Tryz.func138) Tryz.func138 fun hw=>by
 rw [s_l13New_ev]
 have h:leI ((gd p 5).rows.length:Int) 1000000000=true:=h
 simp only [leI,decide_eq_true_eq] at h
 have e:=run_loop (L:=s_l13NewL0 ((gd p 5).rows.length+1) p) (fun k => [gd p 0,gd p 1,gd p 2,gd p 3,gd p 4,gd p 5,gd p 6,gd p 7,gd p 8,.i 0,.i 0,.i (newSum (gd p 3) (gd p 5) k),.i (k:Int),gd p 0,gd p 1,gd p 2,gd p 3,gd p 4,gd p 5,gd p 6,gd p 7,gd p 8]) (gd p 5).rows.length 0 (fun k hk=>?_) ?_ (N:=(gd p 5).rows.length+1) (by omega)
 ·simp only [Int.natCast_zero,newSum] at e
  rw [e]
  rfl
 ·show s_l13NewL0 _ p [_,_,_,_,_,_,_,_,_,_,_,_,.i (k:Int),_,_,_,_,_,_,_,_,_]=_
  rw [s_l13NewR0]
  have h1:=newSum_in (gd p 3) (gd p 5) k
  have h2:=storeNew_in (gd p 3) (gd ((gd p 5).rows.getD k []) 1)
  simp only [int_i,c_lt hk,nd_ix hk,w64_succ hk (show (gd p 5).rows.length≤9223372036854775807 from by omega),Int.toNat_natCast]
  rw [w64_id (by omega) (by omega)]
  rfl
 ·show s_l13NewL0 _ p [_,_,_,_,_,_,_,_,_,_,_,_,.i ((gd p 5).rows.length:Int),_,_,_,_,_,_,_,_,_]=_
  rw [s_l13NewR0]
  simp only [int_i,c_nlt]
end Go.Proofs.YtchceahcaaibcaaGreat
namespace Go.Proofs.YtchceahcaaibcaaGreat
set_option maxRecDepth 4096
set_option maxHeartbeats 1000000
abbrev i_ShardOk_1T:FuncId→List T→Option (T × Bool):=find [i_haveAllE]
theorem i_ShardOk_1T_ok:CallOk Tryz.prog i_ShardOk_1T:=find_ok (fC ⟨i_haveAll_ok,fN⟩)
abbrev i_ShardOk_1K:List Nat:= [0,1,2,3]
theorem i_ShardOk_1_ev (N:Nat) (p q:List D):evFn Tryz.prog i_ShardOk_1T N i_ShardOk_1K Tryz.f167 rb [⟨ag rIRange,p⟩,⟨.one (.c (.cptr [si,.sl 122,.sl 122,.sl 176,.sl 138,.sl 248,.sl 3,.sl 3,si] 0)),q⟩]=some (bo,
 ob (!(haveAll (gd ((gd q 0).rows.getD 0 []) 1) (sub p 0 2)))):=by kernel_rfl
def i_ShardOk_1F (p q:List D):Bool:=
 !(haveAll (gd ((gd q 0).rows.getD 0 []) 1) (sub p 0 2))
def i_ShardOk_1E:Ent:=(167,e2 (ag rIRange) (.one (.c (.cptr [si,.sl 122,.sl 122,.sl 176,.sl 138,.sl 248,.sl 3,.sl 3,si] 0))) fun p q=>(⟨rb,[.b (i_ShardOk_1F p [gd q 0])]⟩,true))
theorem i_ShardOk_1_ok:EntOk Tryz.prog i_ShardOk_1E:=e2_ok fun p q h=>evFn_sound (N:=0) (ks:=i_ShardOk_1K) (key:=bo) i_ShardOk_1T_ok (enters Tryz.func167) Tryz.func167 fun hw=>by
 rw [i_ShardOk_1_ev]
 try simp only [cond_ob,cond_oi,cond_os]
 rfl
abbrev i_ShardOk_2T:FuncId→List T→Option (T × Bool):=find [i_oneE,i_haveAllE]
theorem i_ShardOk_2T_ok:CallOk Tryz.prog i_ShardOk_2T:=find_ok (fC ⟨i_one_ok,fC ⟨i_haveAll_ok,fN⟩⟩)
abbrev i_ShardOk_2K:List Nat:= [0,1,2,3]
theorem i_ShardOk_2_ev (N:Nat) (p q:List D):evFn Tryz.prog i_ShardOk_2T N i_ShardOk_2K Tryz.f169 rb [⟨ag rICell,p⟩,⟨.one (.c (.cptr [si,.sl 122,.sl 122,.sl 176,.sl 138,.sl 248,.sl 3,.sl 3,si] 0)),q⟩]=some (bo,
 ob (!(haveAll (gd ((gd q 0).rows.getD 0 []) 1) [(gd p 0),.i (w64 ((gd p 0).int+1))]))):=by kernel_rfl
def i_ShardOk_2F (p q:List D):Bool:=
 !(haveAll (gd ((gd q 0).rows.getD 0 []) 1) [(gd p 0),.i (w64 ((gd p 0).int+1))])
def i_ShardOk_2E:Ent:=(169,e2 (ag rICell) (.one (.c (.cptr [si,.sl 122,.sl 122,.sl 176,.sl 138,.sl 248,.sl 3,.sl 3,si] 0))) fun p q=>(⟨rb,[.b (i_ShardOk_2F p [gd q 0])]⟩,true))
theorem i_ShardOk_2_ok:EntOk Tryz.prog i_ShardOk_2E:=e2_ok fun p q h=>evFn_sound (N:=0) (ks:=i_ShardOk_2K) (key:=bo) i_ShardOk_2T_ok (enters Tryz.func169) Tryz.func169 fun hw=>by
 rw [i_ShardOk_2_ev]
 try simp only [cond_ob,cond_oi,cond_os]
 rfl
abbrev i_ShardOk_3T:FuncId→List T→Option (T × Bool):=find [i_LkeysE,i_haveAllE,coIE]
theorem i_ShardOk_3T_ok:CallOk Tryz.prog i_ShardOk_3T:=find_ok (fC ⟨i_Lkeys_ok,fC ⟨i_haveAll_ok,fC ⟨coI_ok,fN⟩⟩⟩)
abbrev i_ShardOk_3K:List Nat:= [0,1,2,3,4]
theorem i_ShardOk_3_ev (N:Nat) (p q r:List D):evFn Tryz.prog i_ShardOk_3T N i_ShardOk_3K Tryz.f172 rb [⟨ag rILock,p⟩,⟨.one (.c (.cptr [si,.sl 122,.sl 122,.sl 176,.sl 138,.sl 248,.sl 3,.sl 3,si] 0)),q⟩,⟨.one (.c (.cptr [.sl 3] 0)),r⟩]=some (bo,
 bif !(haveAll (gd ((gd q 0).rows.getD 0 []) 1) [(gd p 1),(gd p 2)]) then ob true
 else ob (hasInt (gd ((gd r 0).rows.getD 0 []) 0) (gd p 0).int)):=by kernel_rfl
def i_ShardOk_3F (p q r:List D):Bool:=
 bif !(haveAll (gd ((gd q 0).rows.getD 0 []) 1) [(gd p 1),(gd p 2)]) then true
 else hasInt (gd ((gd r 0).rows.getD 0 []) 0) (gd p 0).int
def i_ShardOk_3E:Ent:=(172,e3 (ag rILock) (.one (.c (.cptr [si,.sl 122,.sl 122,.sl 176,.sl 138,.sl 248,.sl 3,.sl 3,si] 0))) (.one (.c (.cptr [.sl 3] 0))) fun p q r=>(⟨rb,[.b (i_ShardOk_3F p [gd q 0] [gd r 0])]⟩,true))
theorem i_ShardOk_3_ok:EntOk Tryz.prog i_ShardOk_3E:=e3_ok fun p q r h=>evFn_sound (N:=0) (ks:=i_ShardOk_3K) (key:=bo) i_ShardOk_3T_ok (enters Tryz.func172) Tryz.func172 fun hw=>by
 rw [i_ShardOk_3_ev]
 try simp only [cond_ob,cond_oi,cond_os]
 rfl
abbrev ixfSFT:FuncId→List T→Option (T × Bool):=find [i_ShardOk_1E]
theorem ixfSFT_ok:CallOk Tryz.prog ixfSFT:=find_ok (fC ⟨i_ShardOk_1_ok,fN⟩)
abbrev ixfSFK:List Nat:= [0,1,4,5,7,8,9,16]
noncomputable def ixfSFL0 (N:Nat) (p q:List D):List D→Out:=loopOf Tryz.prog ixfSFT N ixfSFK Tryz.f264 ri [⟨sd (.sl 122),p⟩,⟨.one (.c (.fn 167 [.cptr [si,.sl 122,.sl 122,.sl 176,.sl 138,.sl 248,.sl 3,.sl 3,si] 0])),q⟩] 0
theorem ixfSFR0 (N:Nat) (p q:List D) (x0 x1 x2 x3 x4:D):(ixfSFL0 N p q) [x0,x1,x2,x3,x4] =
 bif ltI x4.int x3.int then nd (inRange x4.int x0.rows.length) (bif i_ShardOk_1F (sub (x0.rows.getD x4.int.toNat []) 0 2) [gd (x1.rows.getD 0 []) 0] then some (1,[x4])
 else nx [x0,x1,x2,x3,.i (w64 (x4.int+1))])
 else ex 0 [x0,x1,x2,x3,x4]:=by kernel_rfl
theorem ixfSF_ev (N:Nat) (p q:List D):evFn Tryz.prog ixfSFT N ixfSFK Tryz.f264 ri [⟨sd (.sl 122),p⟩,⟨.one (.c (.fn 167 [.cptr [si,.sl 122,.sl 122,.sl 176,.sl 138,.sl 248,.sl 3,.sl 3,si] 0])),q⟩]=some (bo,
 (let o0:=iter (ixfSFL0 N p q) N [gd p 0,gd q 0,.i 0,.i ((gd p 0).rows.length:Int),.i 0]
  nd o0.isSome (bif o0.code==1 then some (1,o0.pay)
  else nd (o0.code==2) (oi (-1))))):=by kernel_rfl
def ixfSFC (c:D) (r:List D):Bool:=i_ShardOk_1F r [gd (c.rows.getD 0 []) 0]
def ixfSFE:Ent:=(264,e2 (sd (.sl 122)) (.one (.c (.fn 167 [.cptr [si,.sl 122,.sl 122,.sl 176,.sl 138,.sl 248,.sl 3,.sl 3,si] 0]))) fun p q=>(⟨ri,[.i (ixF (fun k=>ixfSFC (gd q 0) (sub ((gd p 0).rows.getD k []) 0 2)) 0 (gd p 0).rows.length)]⟩,true))
theorem ixfSF_ok:EntOk Tryz.prog ixfSFE:=e2_ok fun p q h=>evFn_sound (N:=(gd p 0).rows.length+1) (ks:=ixfSFK) (key:=bo) ixfSFT_ok (enters Tryz.func264) Tryz.func264 fun hw=>by
 rw [ixfSF_ev]
 have hl:=wt_sl (hw ⟨sd (.sl 122),p⟩ (by simp))
 have e:=ix_loop (L:=ixfSFL0 ((gd p 0).rows.length+1) p q) (fun k => [gd p 0,gd q 0,.i 0,.i ((gd p 0).rows.length:Int),.i (k:Int)]) (gd p 0).rows.length (fun k=>ixfSFC (gd q 0) (sub ((gd p 0).rows.getD k []) 0 2)) [gd p 0,gd q 0,.i 0,.i ((gd p 0).rows.length:Int),.i ((gd p 0).rows.length:Int)] (fun k hk=>?_) ?_ (gd p 0).rows.length 0 ((gd p 0).rows.length+1) (by omega) (by omega)
 ·simp only [Int.natCast_zero] at e
  rw [e]
  have hno:=ixF_neg (fun k=>ixfSFC (gd q 0) (sub ((gd p 0).rows.getD k []) 0 2)) (gd p 0).rows.length 0
  cases hd:decide (ixF (fun k=>ixfSFC (gd q 0) (sub ((gd p 0).rows.getD k []) 0 2)) 0 (gd p 0).rows.length≥0)
  ·rw [hno hd]; rfl
  ·rfl
 ·show ixfSFL0 _ p q [_,_,_,_,.i (k:Int)]=_
  rw [ixfSFR0]
  simp only [int_i,c_lt hk,nd_ix hk,w64_succ hk hl,Int.toNat_natCast]
  unfold ixfSFC
  cases i_ShardOk_1F (sub ((gd p 0).rows.getD k []) 0 2) [gd ((gd q 0).rows.getD 0 []) 0] <;> rfl
 ·show ixfSFL0 _ p q [_,_,_,.i ((gd p 0).rows.length:Int),.i ((gd p 0).rows.length:Int)]=_
  rw [ixfSFR0]
  simp only [int_i,c_nlt]
abbrev cofSFT:FuncId→List T→Option (T × Bool):=find [ixfSFE,i_ShardOk_1E]
theorem cofSFT_ok:CallOk Tryz.prog cofSFT:=find_ok (fC ⟨ixfSF_ok,fC ⟨i_ShardOk_1_ok,fN⟩⟩)
abbrev cofSFK:List Nat:= [0,1,4]
theorem cofSF_ev (N:Nat) (p q:List D):evFn Tryz.prog cofSFT N cofSFK Tryz.f166 rb [⟨sd (.sl 122),p⟩,⟨.one (.c (.fn 167 [.cptr [si,.sl 122,.sl 122,.sl 176,.sl 138,.sl 248,.sl 3,.sl 3,si] 0])),q⟩]=some (bo,
 ob (leI 0 (ixF (fun k=>ixfSFC (.l [[gd ((gd q 0).rows.getD 0 []) 0]]) (sub ((gd p 0).rows.getD k []) 0 2)) 0 (gd p 0).rows.length))):=by kernel_rfl
def cofSFE:Ent:=(166,e2 (sd (.sl 122)) (.one (.c (.fn 167 [.cptr [si,.sl 122,.sl 122,.sl 176,.sl 138,.sl 248,.sl 3,.sl 3,si] 0]))) fun p q=>(⟨rb,[.b (anyS (fun rr=>ixfSFC (gd q 0) (sub rr 0 2)) (gd p 0))]⟩,true))
theorem cofSF_ok:EntOk Tryz.prog cofSFE:=e2_ok fun p q h=>evFn_sound (N:=0) (ks:=cofSFK) (key:=bo) cofSFT_ok (enters Tryz.func166) Tryz.func166 fun hw=>by
 rw [cofSF_ev]
 refine congrArg (fun x=>some (bo,ob x)) ?_
 exact (ixF_any (fun k=>ixfSFC (gd q 0) (sub ((gd p 0).rows.getD k []) 0 2)) (gd p 0).rows.length 0).trans (by simp only [Nat.zero_add]; rfl)
abbrev ixfSCT:FuncId→List T→Option (T × Bool):=find [i_ShardOk_2E]
theorem ixfSCT_ok:CallOk Tryz.prog ixfSCT:=find_ok (fC ⟨i_ShardOk_2_ok,fN⟩)
abbrev ixfSCK:List Nat:= [0,1,4,5,7,8,9,16]
noncomputable def ixfSCL0 (N:Nat) (p q:List D):List D→Out:=loopOf Tryz.prog ixfSCT N ixfSCK Tryz.f265 ri [⟨sd (.sl 176),p⟩,⟨.one (.c (.fn 169 [.cptr [si,.sl 122,.sl 122,.sl 176,.sl 138,.sl 248,.sl 3,.sl 3,si] 0])),q⟩] 0
theorem ixfSCR0 (N:Nat) (p q:List D) (x0 x1 x2 x3 x4:D):(ixfSCL0 N p q) [x0,x1,x2,x3,x4] =
 bif ltI x4.int x3.int then nd (inRange x4.int x0.rows.length) (bif i_ShardOk_2F (sub (x0.rows.getD x4.int.toNat []) 0 2) [gd (x1.rows.getD 0 []) 0] then some (1,[x4])
 else nx [x0,x1,x2,x3,.i (w64 (x4.int+1))])
 else ex 0 [x0,x1,x2,x3,x4]:=by kernel_rfl
theorem ixfSC_ev (N:Nat) (p q:List D):evFn Tryz.prog ixfSCT N ixfSCK Tryz.f265 ri [⟨sd (.sl 176),p⟩,⟨.one (.c (.fn 169 [.cptr [si,.sl 122,.sl 122,.sl 176,.sl 138,.sl 248,.sl 3,.sl 3,si] 0])),q⟩]=some (bo,
 (let o0:=iter (ixfSCL0 N p q) N [gd p 0,gd q 0,.i 0,.i ((gd p 0).rows.length:Int),.i 0]
  nd o0.isSome (bif o0.code==1 then some (1,o0.pay)
  else nd (o0.code==2) (oi (-1))))):=by kernel_rfl
def ixfSCC (c:D) (r:List D):Bool:=i_ShardOk_2F r [gd (c.rows.getD 0 []) 0]
def ixfSCE:Ent:=(265,e2 (sd (.sl 176)) (.one (.c (.fn 169 [.cptr [si,.sl 122,.sl 122,.sl 176,.sl 138,.sl 248,.sl 3,.sl 3,si] 0]))) fun p q=>(⟨ri,[.i (ixF (fun k=>ixfSCC (gd q 0) (sub ((gd p 0).rows.getD k []) 0 2)) 0 (gd p 0).rows.length)]⟩,true))
theorem ixfSC_ok:EntOk Tryz.prog ixfSCE:=e2_ok fun p q h=>evFn_sound (N:=(gd p 0).rows.length+1) (ks:=ixfSCK) (key:=bo) ixfSCT_ok (enters Tryz.func265) Tryz.func265 fun hw=>by
 rw [ixfSC_ev]
 have hl:=wt_sl (hw ⟨sd (.sl 176),p⟩ (by simp))
 have e:=ix_loop (L:=ixfSCL0 ((gd p 0).rows.length+1) p q) (fun k => [gd p 0,gd q 0,.i 0,.i ((gd p 0).rows.length:Int),.i (k:Int)]) (gd p 0).rows.length (fun k=>ixfSCC (gd q 0) (sub ((gd p 0).rows.getD k []) 0 2)) [gd p 0,gd q 0,.i 0,.i ((gd p 0).rows.length:Int),.i ((gd p 0).rows.length:Int)] (fun k hk=>?_) ?_ (gd p 0).rows.length 0 ((gd p 0).rows.length+1) (by omega) (by omega)
 ·simp only [Int.natCast_zero] at e
  rw [e]
  have hno:=ixF_neg (fun k=>ixfSCC (gd q 0) (sub ((gd p 0).rows.getD k []) 0 2)) (gd p 0).rows.length 0
  cases hd:decide (ixF (fun k=>ixfSCC (gd q 0) (sub ((gd p 0).rows.getD k []) 0 2)) 0 (gd p 0).rows.length≥0)
  ·rw [hno hd]; rfl
  ·rfl
 ·show ixfSCL0 _ p q [_,_,_,_,.i (k:Int)]=_
  rw [ixfSCR0]
  simp only [int_i,c_lt hk,nd_ix hk,w64_succ hk hl,Int.toNat_natCast]
  unfold ixfSCC
  cases i_ShardOk_2F (sub ((gd p 0).rows.getD k []) 0 2) [gd ((gd q 0).rows.getD 0 []) 0] <;> rfl
 ·show ixfSCL0 _ p q [_,_,_,.i ((gd p 0).rows.length:Int),.i ((gd p 0).rows.length:Int)]=_
  rw [ixfSCR0]
  simp only [int_i,c_nlt]
abbrev cofSCT:FuncId→List T→Option (T × Bool):=find [ixfSCE,i_ShardOk_2E]
theorem cofSCT_ok:CallOk Tryz.prog cofSCT:=find_ok (fC ⟨ixfSC_ok,fC ⟨i_ShardOk_2_ok,fN⟩⟩)
abbrev cofSCK:List Nat:= [0,1,4]
theorem cofSC_ev (N:Nat) (p q:List D):evFn Tryz.prog cofSCT N cofSCK Tryz.f168 rb [⟨sd (.sl 176),p⟩,⟨.one (.c (.fn 169 [.cptr [si,.sl 122,.sl 122,.sl 176,.sl 138,.sl 248,.sl 3,.sl 3,si] 0])),q⟩]=some (bo,
 ob (leI 0 (ixF (fun k=>ixfSCC (.l [[gd ((gd q 0).rows.getD 0 []) 0]]) (sub ((gd p 0).rows.getD k []) 0 2)) 0 (gd p 0).rows.length))):=by kernel_rfl
def cofSCE:Ent:=(168,e2 (sd (.sl 176)) (.one (.c (.fn 169 [.cptr [si,.sl 122,.sl 122,.sl 176,.sl 138,.sl 248,.sl 3,.sl 3,si] 0]))) fun p q=>(⟨rb,[.b (anyS (fun rr=>ixfSCC (gd q 0) (sub rr 0 2)) (gd p 0))]⟩,true))
theorem cofSC_ok:EntOk Tryz.prog cofSCE:=e2_ok fun p q h=>evFn_sound (N:=0) (ks:=cofSCK) (key:=bo) cofSCT_ok (enters Tryz.func168) Tryz.func168 fun hw=>by
 rw [cofSC_ev]
 refine congrArg (fun x=>some (bo,ob x)) ?_
 exact (ixF_any (fun k=>ixfSCC (gd q 0) (sub ((gd p 0).rows.getD k []) 0 2)) (gd p 0).rows.length 0).trans (by simp only [Nat.zero_add]; rfl)
abbrev ixfSLT:FuncId→List T→Option (T × Bool):=find [i_ShardOk_3E]
theorem ixfSLT_ok:CallOk Tryz.prog ixfSLT:=find_ok (fC ⟨i_ShardOk_3_ok,fN⟩)
abbrev ixfSLK:List Nat:= [0,1,4,5,7,8,9,16]
noncomputable def ixfSLL0 (N:Nat) (p q:List D):List D→Out:=loopOf Tryz.prog ixfSLT N ixfSLK Tryz.f267 ri [⟨sd (.sl 138),p⟩,⟨.one (.c (.fn 172 [.cptr [si,.sl 122,.sl 122,.sl 176,.sl 138,.sl 248,.sl 3,.sl 3,si] 0,.cptr [.sl 3] 0])),q⟩] 0
theorem ixfSLR0 (N:Nat) (p q:List D) (x0 x1 x2 x3 x4:D):(ixfSLL0 N p q) [x0,x1,x2,x3,x4] =
 bif ltI x4.int x3.int then nd (inRange x4.int x0.rows.length) (bif i_ShardOk_3F (sub (x0.rows.getD x4.int.toNat []) 0 4) [gd (x1.rows.getD 0 []) 0] [gd (x1.rows.getD 0 []).tail 0] then some (1,[x4])
 else nx [x0,x1,x2,x3,.i (w64 (x4.int+1))])
 else ex 0 [x0,x1,x2,x3,x4]:=by kernel_rfl
theorem ixfSL_ev (N:Nat) (p q:List D):evFn Tryz.prog ixfSLT N ixfSLK Tryz.f267 ri [⟨sd (.sl 138),p⟩,⟨.one (.c (.fn 172 [.cptr [si,.sl 122,.sl 122,.sl 176,.sl 138,.sl 248,.sl 3,.sl 3,si] 0,.cptr [.sl 3] 0])),q⟩]=some (bo,
 (let o0:=iter (ixfSLL0 N p q) N [gd p 0,gd q 0,.i 0,.i ((gd p 0).rows.length:Int),.i 0]
  nd o0.isSome (bif o0.code==1 then some (1,o0.pay)
  else nd (o0.code==2) (oi (-1))))):=by kernel_rfl
def ixfSLC (c:D) (r:List D):Bool:=i_ShardOk_3F r [gd (c.rows.getD 0 []) 0] [gd (c.rows.getD 0 []).tail 0]
def ixfSLE:Ent:=(267,e2 (sd (.sl 138)) (.one (.c (.fn 172 [.cptr [si,.sl 122,.sl 122,.sl 176,.sl 138,.sl 248,.sl 3,.sl 3,si] 0,.cptr [.sl 3] 0]))) fun p q=>(⟨ri,[.i (ixF (fun k=>ixfSLC (gd q 0) (sub ((gd p 0).rows.getD k []) 0 4)) 0 (gd p 0).rows.length)]⟩,true))
theorem ixfSL_ok:EntOk Tryz.prog ixfSLE:=e2_ok fun p q h=>evFn_sound (N:=(gd p 0).rows.length+1) (ks:=ixfSLK) (key:=bo) ixfSLT_ok (enters Tryz.func267) Tryz.func267 fun hw=>by
 rw [ixfSL_ev]
 have hl:=wt_sl (hw ⟨sd (.sl 138),p⟩ (by simp))
 have e:=ix_loop (L:=ixfSLL0 ((gd p 0).rows.length+1) p q) (fun k => [gd p 0,gd q 0,.i 0,.i ((gd p 0).rows.length:Int),.i (k:Int)]) (gd p 0).rows.length (fun k=>ixfSLC (gd q 0) (sub ((gd p 0).rows.getD k []) 0 4)) [gd p 0,gd q 0,.i 0,.i ((gd p 0).rows.length:Int),.i ((gd p 0).rows.length:Int)] (fun k hk=>?_) ?_ (gd p 0).rows.length 0 ((gd p 0).rows.length+1) (by omega) (by omega)
 ·simp only [Int.natCast_zero] at e
  rw [e]
  have hno:=ixF_neg (fun k=>ixfSLC (gd q 0) (sub ((gd p 0).rows.getD k []) 0 4)) (gd p 0).rows.length 0
  cases hd:decide (ixF (fun k=>ixfSLC (gd q 0) (sub ((gd p 0).rows.getD k []) 0 4)) 0 (gd p 0).rows.length≥0)
  ·rw [hno hd]; rfl
  ·rfl
 ·show ixfSLL0 _ p q [_,_,_,_,.i (k:Int)]=_
  rw [ixfSLR0]
  simp only [int_i,c_lt hk,nd_ix hk,w64_succ hk hl,Int.toNat_natCast]
  unfold ixfSLC
  cases i_ShardOk_3F (sub ((gd p 0).rows.getD k []) 0 4) [gd ((gd q 0).rows.getD 0 []) 0] [gd ((gd q 0).rows.getD 0 []).tail 0] <;> rfl
 ·show ixfSLL0 _ p q [_,_,_,.i ((gd p 0).rows.length:Int),.i ((gd p 0).rows.length:Int)]=_
  rw [ixfSLR0]
  simp only [int_i,c_nlt]
abbrev cofSLT:FuncId→List T→Option (T × Bool):=find [ixfSLE,i_ShardOk_3E]
theorem cofSLT_ok:CallOk Tryz.prog cofSLT:=find_ok (fC ⟨ixfSL_ok,fC ⟨i_ShardOk_3_ok,fN⟩⟩)
abbrev cofSLK:List Nat:= [0,1,4]
theorem cofSL_ev (N:Nat) (p q:List D):evFn Tryz.prog cofSLT N cofSLK Tryz.f171 rb [⟨sd (.sl 138),p⟩,⟨.one (.c (.fn 172 [.cptr [si,.sl 122,.sl 122,.sl 176,.sl 138,.sl 248,.sl 3,.sl 3,si] 0,.cptr [.sl 3] 0])),q⟩]=some (bo,
 ob (leI 0 (ixF (fun k=>ixfSLC (.l [[gd ((gd q 0).rows.getD 0 []) 0,gd ((gd q 0).rows.getD 0 []).tail 0]]) (sub ((gd p 0).rows.getD k []) 0 4)) 0 (gd p 0).rows.length))):=by kernel_rfl
def cofSLE:Ent:=(171,e2 (sd (.sl 138)) (.one (.c (.fn 172 [.cptr [si,.sl 122,.sl 122,.sl 176,.sl 138,.sl 248,.sl 3,.sl 3,si] 0,.cptr [.sl 3] 0]))) fun p q=>(⟨rb,[.b (anyS (fun rr=>ixfSLC (gd q 0) (sub rr 0 4)) (gd p 0))]⟩,true))
theorem cofSL_ok:EntOk Tryz.prog cofSLE:=e2_ok fun p q h=>evFn_sound (N:=0) (ks:=cofSLK) (key:=bo) cofSLT_ok (enters Tryz.func171) Tryz.func171 fun hw=>by
 rw [cofSL_ev]
 refine congrArg (fun x=>some (bo,ob x)) ?_
 exact (ixF_any (fun k=>ixfSLC (gd q 0) (sub ((gd p 0).rows.getD k []) 0 4)) (gd p 0).rows.length 0).trans (by simp only [Nat.zero_add]; rfl)
end Go.Proofs.YtchceahcaaibcaaGreat
