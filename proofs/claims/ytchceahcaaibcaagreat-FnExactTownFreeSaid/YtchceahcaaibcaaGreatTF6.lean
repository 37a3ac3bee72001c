/-
 Texts of the proof,put together: part 6.
-/
import Derived.Test.YtchceahcaaibcaaGreatTF1
import Derived.Test.YtchceahcaaibcaaGreatTF2
import Derived.Test.YtchceahcaaibcaaGreatTF3
import Derived.Test.YtchceahcaaibcaaGreatTF4
import Derived.Test.YtchceahcaaibcaaGreatTF5
import Derived.Shelf.Sort.Plain
import Derived.Shelf.Slices.In.SortNone
import Derived.Shelf.Slices.CompactI
import Derived.Shelf.Slices.Clone
import Derived.Shelf.Spec.SlicesGrow
import Derived.Test.YtchceahcaaibcaaGreatProg
import Derived.Lib.SlicesCompact
import Derived.Lib.RowBridge
set_option linter.unusedSimpArgs false
set_option linter.unusedVariables false
set_option linter.unusedSectionVars false
namespace Go.Proofs.YtchceahcaaibcaaGreat
set_option maxRecDepth 4096
set_option maxHeartbeats 1000000
abbrev i_TownOk_2T:FuncId→List T→Option (T × Bool):=find [i_clientRightE]
theorem i_TownOk_2T_ok:CallOk Tryz.prog i_TownOk_2T:=find_ok (fC ⟨i_clientRight_ok,fN⟩)
abbrev i_TownOk_2K:List Nat:= [0,1,2,3]
theorem i_TownOk_2_ev (N:Nat) (p q:List D):evFn Tryz.prog i_TownOk_2T N i_TownOk_2K Tryz.f67 rb [⟨ag rIClient,p⟩,⟨.one (.c (.cptr [si] 0)),q⟩]=some (bo,
 nd (clientSmall (sub p 0 9)) (ob (!(clientRight (sub p 0 9) (gd ((gd q 0).rows.getD 0 []) 0).int)))):=by kernel_rfl
def notRight (p q:List D):Bool:= !clientRight p (gd ((gd q 0).rows.getD 0 []) 0).int
def i_TownOk_2E:Ent:=(67,e2 (ag rIClient) (.one (.c (.cptr [si] 0))) fun p q=>(⟨rb,[.b (notRight p [gd q 0])]⟩,clientSmall p))
theorem i_TownOk_2_ok:EntOk Tryz.prog i_TownOk_2E:=e2_ok fun p q h=>evFn_sound (N:=0) (ks:=i_TownOk_2K) (key:=bo) i_TownOk_2T_ok (enters Tryz.func67) Tryz.func67 fun hw=>by
 rw [i_TownOk_2_ev]
 have h:clientSmall p=true:=h
 rw [show clientSmall (sub p 0 9)=clientSmall p from rfl,h]
 rfl
abbrev i_TownOk_3T:FuncId→List T→Option (T × Bool):=find [i_LetterOkE]
theorem i_TownOk_3T_ok:CallOk Tryz.prog i_TownOk_3T:=find_ok (fC ⟨i_LetterOk_ok,fN⟩)
abbrev i_TownOk_3K:List Nat:= [0,1,2,3,4]
theorem i_TownOk_3_ev (N:Nat) (p q r:List D):evFn Tryz.prog i_TownOk_3T N i_TownOk_3K Tryz.f70 rb [⟨ag rILetter,p⟩,⟨.one (.c (.cptr [si] 0)),q⟩,⟨.one (.c (.cptr [si,.sl 97,si,si,si,si,si,si,.sl 176,.sl 80,.sl 116,.sl 3,.sl 102,.sl 85,.sl 88] 0)),r⟩]=some (bo,
 bif !(letterOk (sub p 0 14)) then ob true
 else bif leI (gd ((gd q 0).rows.getD 0 []) 0).int (gd p 1).int then ob true
 else ob (leI ((gd ((gd r 0).rows.getD 0 []) 12).rows.length:Int) (gd p 2).int)):=by kernel_rfl
def i_TownOk_3F (p q r:List D):Bool:=
 bif !(letterOk (sub p 0 14)) then true
 else bif leI (gd ((gd q 0).rows.getD 0 []) 0).int (gd p 1).int then true
 else leI ((gd ((gd r 0).rows.getD 0 []) 12).rows.length:Int) (gd p 2).int
def i_TownOk_3E:Ent:=(70,e3 (ag rILetter) (.one (.c (.cptr [si] 0))) (.one (.c (.cptr [si,.sl 97,si,si,si,si,si,si,.sl 176,.sl 80,.sl 116,.sl 3,.sl 102,.sl 85,.sl 88] 0))) fun p q r=>(⟨rb,[.b (i_TownOk_3F p [gd q 0] [gd r 0])]⟩,true))
theorem i_TownOk_3_ok:EntOk Tryz.prog i_TownOk_3E:=e3_ok fun p q r h=>evFn_sound (N:=0) (ks:=i_TownOk_3K) (key:=bo) i_TownOk_3T_ok (enters Tryz.func70) Tryz.func70 fun hw=>by
 rw [i_TownOk_3_ev]
 try simp only [cond_ob,cond_oi,cond_os]
 rfl
abbrev i_TownOk_4T:FuncId→List T→Option (T × Bool):=find [i_eventRightE]
theorem i_TownOk_4T_ok:CallOk Tryz.prog i_TownOk_4T:=find_ok (fC ⟨i_eventRight_ok,fN⟩)
abbrev i_TownOk_4K:List Nat:= [0,1,2,3]
theorem i_TownOk_4_ev (N:Nat) (p q:List D):evFn Tryz.prog i_TownOk_4T N i_TownOk_4K Tryz.f73 rb [⟨ag rIEvent,p⟩,⟨.one (.c (.cptr [si,.sl 97,si,si,si,si,si,si,.sl 176,.sl 80,.sl 116,.sl 3,.sl 102,.sl 85,.sl 88] 0)),q⟩]=some (bo,
 ob (!(eventOk (sub p 0 7) ((gd ((gd q 0).rows.getD 0 []) 12).rows.length:Int)))):=by kernel_rfl
def i_TownOk_4F (p q:List D):Bool:=
 !(eventOk (sub p 0 7) ((gd ((gd q 0).rows.getD 0 []) 12).rows.length:Int))
def i_TownOk_4E:Ent:=(73,e2 (ag rIEvent) (.one (.c (.cptr [si,.sl 97,si,si,si,si,si,si,.sl 176,.sl 80,.sl 116,.sl 3,.sl 102,.sl 85,.sl 88] 0))) fun p q=>(⟨rb,[.b (i_TownOk_4F p [gd q 0])]⟩,true))
theorem i_TownOk_4_ok:EntOk Tryz.prog i_TownOk_4E:=e2_ok fun p q h=>evFn_sound (N:=0) (ks:=i_TownOk_4K) (key:=bo) i_TownOk_4T_ok (enters Tryz.func73) Tryz.func73 fun hw=>by
 rw [i_TownOk_4_ev]
 try simp only [cond_ob,cond_oi,cond_os]
 rfl
abbrev ixfTCT:FuncId→List T→Option (T × Bool):=find [i_TownOk_2E]
theorem ixfTCT_ok:CallOk Tryz.prog ixfTCT:=find_ok (fC ⟨i_TownOk_2_ok,fN⟩)
abbrev ixfTCK:List Nat:= [0,1,4,5,7,8,9,16]
noncomputable def ixfTCL0 (N:Nat) (p q:List D):List D→Out:=loopOf Tryz.prog ixfTCT N ixfTCK Tryz.f179 ri [⟨sd (.sl 102),p⟩,⟨.one (.c (.fn 67 [.cptr [si] 0])),q⟩] 0
theorem ixfTCR0 (N:Nat) (p q:List D) (x0 x1 x2 x3 x4:D):(ixfTCL0 N p q) [x0,x1,x2,x3,x4] =
 bif ltI x4.int x3.int then nd (inRange x4.int x0.rows.length) (nd (clientSmall (sub (x0.rows.getD x4.int.toNat []) 0 9)) (bif notRight (sub (x0.rows.getD x4.int.toNat []) 0 9) [gd (x1.rows.getD 0 []) 0] then some (1,[x4])
 else nx [x0,x1,x2,x3,.i (w64 (x4.int+1))]))
 else ex 0 [x0,x1,x2,x3,x4]:=by kernel_rfl
theorem ixfTC_ev (N:Nat) (p q:List D):evFn Tryz.prog ixfTCT N ixfTCK Tryz.f179 ri [⟨sd (.sl 102),p⟩,⟨.one (.c (.fn 67 [.cptr [si] 0])),q⟩]=some (bo,
 (let o0:=iter (ixfTCL0 N p q) N [gd p 0,gd q 0,.i 0,.i ((gd p 0).rows.length:Int),.i 0]
  nd o0.isSome (bif o0.code==1 then some (1,o0.pay)
  else nd (o0.code==2) (oi (-1))))):=by kernel_rfl
def ixfTCC (c:D) (r:List D):Bool:=notRight r [gd (c.rows.getD 0 []) 0]
def ixfTCE:Ent:=(179,e2 (sd (.sl 102)) (.one (.c (.fn 67 [.cptr [si] 0]))) fun p q=>(⟨ri,[.i (ixF (fun k=>ixfTCC (gd q 0) (sub ((gd p 0).rows.getD k []) 0 9)) 0 (gd p 0).rows.length)]⟩,(List.range (gd p 0).rows.length).all fun k=>clientSmall (sub ((gd p 0).rows.getD k []) 0 9)))
theorem ixfTC_ok:EntOk Tryz.prog ixfTCE:=e2_ok fun p q h=>evFn_sound (N:=(gd p 0).rows.length+1) (ks:=ixfTCK) (key:=bo) ixfTCT_ok (enters Tryz.func179) Tryz.func179 fun hw=>by
 rw [ixfTC_ev]
 have hs:((List.range (gd p 0).rows.length).all fun k=>clientSmall (sub ((gd p 0).rows.getD k []) 0 9))=true:=h
 simp only [List.all_eq_true,List.mem_range] at hs
 have hl:=wt_sl (hw ⟨sd (.sl 102),p⟩ (by simp))
 have e:=ix_loop (L:=ixfTCL0 ((gd p 0).rows.length+1) p q) (fun k => [gd p 0,gd q 0,.i 0,.i ((gd p 0).rows.length:Int),.i (k:Int)]) (gd p 0).rows.length (fun k=>ixfTCC (gd q 0) (sub ((gd p 0).rows.getD k []) 0 9)) [gd p 0,gd q 0,.i 0,.i ((gd p 0).rows.length:Int),.i ((gd p 0).rows.length:Int)] (fun k hk=>?_) ?_ (gd p 0).rows.length 0 ((gd p 0).rows.length+1) (by omega) (by omega)
 ·simp only [Int.natCast_zero] at e
  rw [e]
  have hno:=ixF_neg (fun k=>ixfTCC (gd q 0) (sub ((gd p 0).rows.getD k []) 0 9)) (gd p 0).rows.length 0
  cases hd:decide (ixF (fun k=>ixfTCC (gd q 0) (sub ((gd p 0).rows.getD k []) 0 9)) 0 (gd p 0).rows.length≥0)
  ·rw [hno hd]; rfl
  ·rfl
 ·show ixfTCL0 _ p q [_,_,_,_,.i (k:Int)]=_
  rw [ixfTCR0]
  simp only [int_i,c_lt hk,nd_ix hk,w64_succ hk hl,Int.toNat_natCast,hs k hk,nd_true]
  unfold ixfTCC
  cases notRight (sub ((gd p 0).rows.getD k []) 0 9) [gd ((gd q 0).rows.getD 0 []) 0] <;> rfl
 ·show ixfTCL0 _ p q [_,_,_,.i ((gd p 0).rows.length:Int),.i ((gd p 0).rows.length:Int)]=_
  rw [ixfTCR0]
  simp only [int_i,c_nlt]
abbrev cofTCT:FuncId→List T→Option (T × Bool):=find [ixfTCE,i_TownOk_2E]
theorem cofTCT_ok:CallOk Tryz.prog cofTCT:=find_ok (fC ⟨ixfTC_ok,fC ⟨i_TownOk_2_ok,fN⟩⟩)
abbrev cofTCK:List Nat:= [0,1,4]
theorem cofTC_ev (N:Nat) (p q:List D):evFn Tryz.prog cofTCT N cofTCK Tryz.f66 rb [⟨sd (.sl 102),p⟩,⟨.one (.c (.fn 67 [.cptr [si] 0])),q⟩]=some (bo,
 nd ((List.range (gd p 0).rows.length).all fun k=>clientSmall (sub ((gd p 0).rows.getD k []) 0 9)) (ob (leI 0 (ixF (fun k=>ixfTCC (.l [[gd ((gd q 0).rows.getD 0 []) 0]]) (sub ((gd p 0).rows.getD k []) 0 9)) 0 (gd p 0).rows.length)))):=by kernel_rfl
def cofTCE:Ent:=(66,e2 (sd (.sl 102)) (.one (.c (.fn 67 [.cptr [si] 0]))) fun p q=>(⟨rb,[.b (anyS (fun rr=>ixfTCC (gd q 0) (sub rr 0 9)) (gd p 0))]⟩,(List.range (gd p 0).rows.length).all fun k=>clientSmall (sub ((gd p 0).rows.getD k []) 0 9)))
theorem cofTC_ok:EntOk Tryz.prog cofTCE:=e2_ok fun p q h=>evFn_sound (N:=0) (ks:=cofTCK) (key:=bo) cofTCT_ok (enters Tryz.func66) Tryz.func66 fun hw=>by
 rw [cofTC_ev]
 have hs:((List.range (gd p 0).rows.length).all fun k=>clientSmall (sub ((gd p 0).rows.getD k []) 0 9))=true:=h
 rw [hs,nd_true]
 refine congrArg (fun x=>some (bo,ob x)) ?_
 exact (ixF_any (fun k=>ixfTCC (gd q 0) (sub ((gd p 0).rows.getD k []) 0 9)) (gd p 0).rows.length 0).trans (by simp only [Nat.zero_add]; rfl)
abbrev ixfTLT:FuncId→List T→Option (T × Bool):=find [i_TownOk_3E]
theorem ixfTLT_ok:CallOk Tryz.prog ixfTLT:=find_ok (fC ⟨i_TownOk_3_ok,fN⟩)
abbrev ixfTLK:List Nat:= [0,1,4,5,7,8,9,16]
noncomputable def ixfTLL0 (N:Nat) (p q:List D):List D→Out:=loopOf Tryz.prog ixfTLT N ixfTLK Tryz.f184 ri [⟨sd (.sl 85),p⟩,⟨.one (.c (.fn 70 [.cptr [si] 0,.cptr [si,.sl 97,si,si,si,si,si,si,.sl 176,.sl 80,.sl 116,.sl 3,.sl 102,.sl 85,.sl 88] 0])),q⟩] 0
theorem ixfTLR0 (N:Nat) (p q:List D) (x0 x1 x2 x3 x4:D):(ixfTLL0 N p q) [x0,x1,x2,x3,x4] =
 bif ltI x4.int x3.int then nd (inRange x4.int x0.rows.length) (bif i_TownOk_3F (sub (x0.rows.getD x4.int.toNat []) 0 14) [gd (x1.rows.getD 0 []) 0] [gd (x1.rows.getD 0 []).tail 0] then some (1,[x4])
 else nx [x0,x1,x2,x3,.i (w64 (x4.int+1))])
 else ex 0 [x0,x1,x2,x3,x4]:=by kernel_rfl
theorem ixfTL_ev (N:Nat) (p q:List D):evFn Tryz.prog ixfTLT N ixfTLK Tryz.f184 ri [⟨sd (.sl 85),p⟩,⟨.one (.c (.fn 70 [.cptr [si] 0,.cptr [si,.sl 97,si,si,si,si,si,si,.sl 176,.sl 80,.sl 116,.sl 3,.sl 102,.sl 85,.sl 88] 0])),q⟩]=some (bo,
 (let o0:=iter (ixfTLL0 N p q) N [gd p 0,gd q 0,.i 0,.i ((gd p 0).rows.length:Int),.i 0]
  nd o0.isSome (bif o0.code==1 then some (1,o0.pay)
  else nd (o0.code==2) (oi (-1))))):=by kernel_rfl
def ixfTLC (c:D) (r:List D):Bool:=i_TownOk_3F r [gd (c.rows.getD 0 []) 0] [gd (c.rows.getD 0 []).tail 0]
def ixfTLE:Ent:=(184,e2 (sd (.sl 85)) (.one (.c (.fn 70 [.cptr [si] 0,.cptr [si,.sl 97,si,si,si,si,si,si,.sl 176,.sl 80,.sl 116,.sl 3,.sl 102,.sl 85,.sl 88] 0]))) fun p q=>(⟨ri,[.i (ixF (fun k=>ixfTLC (gd q 0) (sub ((gd p 0).rows.getD k []) 0 14)) 0 (gd p 0).rows.length)]⟩,true))
theorem ixfTL_ok:EntOk Tryz.prog ixfTLE:=e2_ok fun p q h=>evFn_sound (N:=(gd p 0).rows.length+1) (ks:=ixfTLK) (key:=bo) ixfTLT_ok (enters Tryz.func184) Tryz.func184 fun hw=>by
 rw [ixfTL_ev]
 have hl:=wt_sl (hw ⟨sd (.sl 85),p⟩ (by simp))
 have e:=ix_loop (L:=ixfTLL0 ((gd p 0).rows.length+1) p q) (fun k => [gd p 0,gd q 0,.i 0,.i ((gd p 0).rows.length:Int),.i (k:Int)]) (gd p 0).rows.length (fun k=>ixfTLC (gd q 0) (sub ((gd p 0).rows.getD k []) 0 14)) [gd p 0,gd q 0,.i 0,.i ((gd p 0).rows.length:Int),.i ((gd p 0).rows.length:Int)] (fun k hk=>?_) ?_ (gd p 0).rows.length 0 ((gd p 0).rows.length+1) (by omega) (by omega)
 ·simp only [Int.natCast_zero] at e
  rw [e]
  have hno:=ixF_neg (fun k=>ixfTLC (gd q 0) (sub ((gd p 0).rows.getD k []) 0 14)) (gd p 0).rows.length 0
  cases hd:decide (ixF (fun k=>ixfTLC (gd q 0) (sub ((gd p 0).rows.getD k []) 0 14)) 0 (gd p 0).rows.length≥0)
  ·rw [hno hd]; rfl
  ·rfl
 ·show ixfTLL0 _ p q [_,_,_,_,.i (k:Int)]=_
  rw [ixfTLR0]
  simp only [int_i,c_lt hk,nd_ix hk,w64_succ hk hl,Int.toNat_natCast]
  unfold ixfTLC
  cases i_TownOk_3F (sub ((gd p 0).rows.getD k []) 0 14) [gd ((gd q 0).rows.getD 0 []) 0] [gd ((gd q 0).rows.getD 0 []).tail 0] <;> rfl
 ·show ixfTLL0 _ p q [_,_,_,.i ((gd p 0).rows.length:Int),.i ((gd p 0).rows.length:Int)]=_
  rw [ixfTLR0]
  simp only [int_i,c_nlt]
abbrev cofTLT:FuncId→List T→Option (T × Bool):=find [ixfTLE,i_TownOk_3E]
theorem cofTLT_ok:CallOk Tryz.prog cofTLT:=find_ok (fC ⟨ixfTL_ok,fC ⟨i_TownOk_3_ok,fN⟩⟩)
abbrev cofTLK:List Nat:= [0,1,4]
theorem cofTL_ev (N:Nat) (p q:List D):evFn Tryz.prog cofTLT N cofTLK Tryz.f69 rb [⟨sd (.sl 85),p⟩,⟨.one (.c (.fn 70 [.cptr [si] 0,.cptr [si,.sl 97,si,si,si,si,si,si,.sl 176,.sl 80,.sl 116,.sl 3,.sl 102,.sl 85,.sl 88] 0])),q⟩]=some (bo,
 ob (leI 0 (ixF (fun k=>ixfTLC (.l [[gd ((gd q 0).rows.getD 0 []) 0,gd ((gd q 0).rows.getD 0 []).tail 0]]) (sub ((gd p 0).rows.getD k []) 0 14)) 0 (gd p 0).rows.length))):=by kernel_rfl
def cofTLE:Ent:=(69,e2 (sd (.sl 85)) (.one (.c (.fn 70 [.cptr [si] 0,.cptr [si,.sl 97,si,si,si,si,si,si,.sl 176,.sl 80,.sl 116,.sl 3,.sl 102,.sl 85,.sl 88] 0]))) fun p q=>(⟨rb,[.b (anyS (fun rr=>ixfTLC (gd q 0) (sub rr 0 14)) (gd p 0))]⟩,true))
theorem cofTL_ok:EntOk Tryz.prog cofTLE:=e2_ok fun p q h=>evFn_sound (N:=0) (ks:=cofTLK) (key:=bo) cofTLT_ok (enters Tryz.func69) Tryz.func69 fun hw=>by
 rw [cofTL_ev]
 refine congrArg (fun x=>some (bo,ob x)) ?_
 exact (ixF_any (fun k=>ixfTLC (gd q 0) (sub ((gd p 0).rows.getD k []) 0 14)) (gd p 0).rows.length 0).trans (by simp only [Nat.zero_add]; rfl)
abbrev ixfTET:FuncId→List T→Option (T × Bool):=find [i_TownOk_4E]
theorem ixfTET_ok:CallOk Tryz.prog ixfTET:=find_ok (fC ⟨i_TownOk_4_ok,fN⟩)
abbrev ixfTEK:List Nat:= [0,1,4,5,7,8,9,16]
noncomputable def ixfTEL0 (N:Nat) (p q:List D):List D→Out:=loopOf Tryz.prog ixfTET N ixfTEK Tryz.f193 ri [⟨sd (.sl 88),p⟩,⟨.one (.c (.fn 73 [.cptr [si,.sl 97,si,si,si,si,si,si,.sl 176,.sl 80,.sl 116,.sl 3,.sl 102,.sl 85,.sl 88] 0])),q⟩] 0
theorem ixfTER0 (N:Nat) (p q:List D) (x0 x1 x2 x3 x4:D):(ixfTEL0 N p q) [x0,x1,x2,x3,x4] =
 bif ltI x4.int x3.int then nd (inRange x4.int x0.rows.length) (bif i_TownOk_4F (sub (x0.rows.getD x4.int.toNat []) 0 7) [gd (x1.rows.getD 0 []) 0] then some (1,[x4])
 else nx [x0,x1,x2,x3,.i (w64 (x4.int+1))])
 else ex 0 [x0,x1,x2,x3,x4]:=by kernel_rfl
theorem ixfTE_ev (N:Nat) (p q:List D):evFn Tryz.prog ixfTET N ixfTEK Tryz.f193 ri [⟨sd (.sl 88),p⟩,⟨.one (.c (.fn 73 [.cptr [si,.sl 97,si,si,si,si,si,si,.sl 176,.sl 80,.sl 116,.sl 3,.sl 102,.sl 85,.sl 88] 0])),q⟩]=some (bo,
 (let o0:=iter (ixfTEL0 N p q) N [gd p 0,gd q 0,.i 0,.i ((gd p 0).rows.length:Int),.i 0]
  nd o0.isSome (bif o0.code==1 then some (1,o0.pay)
  else nd (o0.code==2) (oi (-1))))):=by kernel_rfl
def ixfTEC (c:D) (r:List D):Bool:=i_TownOk_4F r [gd (c.rows.getD 0 []) 0]
def ixfTEE:Ent:=(193,e2 (sd (.sl 88)) (.one (.c (.fn 73 [.cptr [si,.sl 97,si,si,si,si,si,si,.sl 176,.sl 80,.sl 116,.sl 3,.sl 102,.sl 85,.sl 88] 0]))) fun p q=>(⟨ri,[.i (ixF (fun k=>ixfTEC (gd q 0) (sub ((gd p 0).rows.getD k []) 0 7)) 0 (gd p 0).rows.length)]⟩,true))
theorem ixfTE_ok:EntOk Tryz.prog ixfTEE:=e2_ok fun p q h=>evFn_sound (N:=(gd p 0).rows.length+1) (ks:=ixfTEK) (key:=bo) ixfTET_ok (enters Tryz.func193) Tryz.func193 fun hw=>by
 rw [ixfTE_ev]
 have hl:=wt_sl (hw ⟨sd (.sl 88),p⟩ (by simp))
 have e:=ix_loop (L:=ixfTEL0 ((gd p 0).rows.length+1) p q) (fun k => [gd p 0,gd q 0,.i 0,.i ((gd p 0).rows.length:Int),.i (k:Int)]) (gd p 0).rows.length (fun k=>ixfTEC (gd q 0) (sub ((gd p 0).rows.getD k []) 0 7)) [gd p 0,gd q 0,.i 0,.i ((gd p 0).rows.length:Int),.i ((gd p 0).rows.length:Int)] (fun k hk=>?_) ?_ (gd p 0).rows.length 0 ((gd p 0).rows.length+1) (by omega) (by omega)
 ·simp only [Int.natCast_zero] at e
  rw [e]
  have hno:=ixF_neg (fun k=>ixfTEC (gd q 0) (sub ((gd p 0).rows.getD k []) 0 7)) (gd p 0).rows.length 0
  cases hd:decide (ixF (fun k=>ixfTEC (gd q 0) (sub ((gd p 0).rows.getD k []) 0 7)) 0 (gd p 0).rows.length≥0)
  ·rw [hno hd]; rfl
  ·rfl
 ·show ixfTEL0 _ p q [_,_,_,_,.i (k:Int)]=_
  rw [ixfTER0]
  simp only [int_i,c_lt hk,nd_ix hk,w64_succ hk hl,Int.toNat_natCast]
  unfold ixfTEC
  cases i_TownOk_4F (sub ((gd p 0).rows.getD k []) 0 7) [gd ((gd q 0).rows.getD 0 []) 0] <;> rfl
 ·show ixfTEL0 _ p q [_,_,_,.i ((gd p 0).rows.length:Int),.i ((gd p 0).rows.length:Int)]=_
  rw [ixfTER0]
  simp only [int_i,c_nlt]
abbrev cofTET:FuncId→List T→Option (T × Bool):=find [ixfTEE,i_TownOk_4E]
theorem cofTET_ok:CallOk Tryz.prog cofTET:=find_ok (fC ⟨ixfTE_ok,fC ⟨i_TownOk_4_ok,fN⟩⟩)
abbrev cofTEK:List Nat:= [0,1,4]
theorem cofTE_ev (N:Nat) (p q:List D):evFn Tryz.prog cofTET N cofTEK Tryz.f72 rb [⟨sd (.sl 88),p⟩,⟨.one (.c (.fn 73 [.cptr [si,.sl 97,si,si,si,si,si,si,.sl 176,.sl 80,.sl 116,.sl 3,.sl 102,.sl 85,.sl 88] 0])),q⟩]=some (bo,
 ob (leI 0 (ixF (fun k=>ixfTEC (.l [[gd ((gd q 0).rows.getD 0 []) 0]]) (sub ((gd p 0).rows.getD k []) 0 7)) 0 (gd p 0).rows.length))):=by kernel_rfl
def cofTEE:Ent:=(72,e2 (sd (.sl 88)) (.one (.c (.fn 73 [.cptr [si,.sl 97,si,si,si,si,si,si,.sl 176,.sl 80,.sl 116,.sl 3,.sl 102,.sl 85,.sl 88] 0]))) fun p q=>(⟨rb,[.b (anyS (fun rr=>ixfTEC (gd q 0) (sub rr 0 7)) (gd p 0))]⟩,true))
theorem cofTE_ok:EntOk Tryz.prog cofTEE:=e2_ok fun p q h=>evFn_sound (N:=0) (ks:=cofTEK) (key:=bo) cofTET_ok (enters Tryz.func72) Tryz.func72 fun hw=>by
 rw [cofTE_ev]
 refine congrArg (fun x=>some (bo,ob x)) ?_
 exact (ixF_any (fun k=>ixfTEC (gd q 0) (sub ((gd p 0).rows.getD k []) 0 7)) (gd p 0).rows.length 0).trans (by simp only [Nat.zero_add]; rfl)
end Go.Proofs.YtchceahcaaibcaaGreat
namespace Go.Proofs.YtchceahcaaibcaaGreat
set_option maxRecDepth 4096
set_option maxHeartbeats 1000000
abbrev s_ShardOkT:FuncId→List T→Option (T × Bool):=find [s_l1InE,s_RangesOkE,s_StoreOkE,s_LocksOkE,s_l13TxsE,s_RangesHaveE,s_l10OneE,s_l12RangeE,s_l12HasE,s_l13HeldsOkE,s_l13NewE]
theorem s_ShardOkT_ok:CallOk Tryz.prog s_ShardOkT:=find_ok (fC ⟨s_l1In_ok,fC ⟨s_RangesOk_ok,fC ⟨s_StoreOk_ok,fC ⟨s_LocksOk_ok,fC ⟨s_l13Txs_ok,fC ⟨s_RangesHave_ok,fC ⟨s_l10One_ok,fC ⟨s_l12Range_ok,fC ⟨s_l12Has_ok,fC ⟨s_l13HeldsOk_ok,fC ⟨s_l13New_ok,fN⟩⟩⟩⟩⟩⟩⟩⟩⟩⟩⟩)
abbrev s_ShardOkK:List Nat:= [0,1,2,3,4,5,6,7,41,69,74,85,90,103,108,135,140,150,1000041,1000069,1000074,1000085,1000090,1000103,1000108,1000135,1000140,1000150]
noncomputable def s_ShardOkL0 (N:Nat) (p:List D):List D→Out:=loopOf Tryz.prog s_ShardOkT N s_ShardOkK Tryz.f51 rb [⟨ag rIShard,p⟩] 0
noncomputable def s_ShardOkL2 (N:Nat) (p:List D):List D→Out:=loopOf Tryz.prog s_ShardOkT N s_ShardOkK Tryz.f51 rb [⟨ag rIShard,p⟩] 2
noncomputable def s_ShardOkL4 (N:Nat) (p:List D):List D→Out:=loopOf Tryz.prog s_ShardOkT N s_ShardOkK Tryz.f51 rb [⟨ag rIShard,p⟩] 4
noncomputable def s_ShardOkL6 (N:Nat) (p:List D):List D→Out:=loopOf Tryz.prog s_ShardOkT N s_ShardOkK Tryz.f51 rb [⟨ag rIShard,p⟩] 6
theorem s_ShardOkR0 (N:Nat) (p:List D) (x0 x1 x2 x3 x4 x5 x6 x7 x8 x9 x10 x11 x12 x13 x14 x15 x16 x17 x18 x19 x20:D):(s_ShardOkL0 N p) [x0,x1,x2,x3,x4,x5,x6,x7,x8,x9,x10,x11,x12,x13,x14,x15,x16,x17,x18,x19,x20] =
 bif ltI x11.int (x14.rows.length:Int) then nd (inRange x11.int x14.rows.length) (bif !(rangesHave x13 (sub (x14.rows.getD x11.int.toNat []) 0 2)) then ob false
 else nx [x0,x1,x2,x3,x4,x5,x6,x7,x8,x9,x10,.i (w64 (x11.int+1)),x12,x13,x14,x15,x16,x17,x18,x19,x20])
 else ex 0 [x0,x1,x2,x3,x4,x5,x6,x7,x8,x9,x10,x11,x12,x13,x14,x15,x16,x17,x18,x19,x20]:=by kernel_rfl
theorem s_ShardOkR2 (N:Nat) (p:List D) (x0 x1 x2 x3 x4 x5 x6 x7 x8 x9 x10 x11 x12 x13 x14 x15 x16 x17 x18 x19 x20 x21:D):(s_ShardOkL2 N p) [x0,x1,x2,x3,x4,x5,x6,x7,x8,x9,x10,x11,x12,x13,x14,x15,x16,x17,x18,x19,x20,x21] =
 bif ltI x12.int (x16.rows.length:Int) then nd (inRange x12.int x16.rows.length) (bif !(rangesHave x14 [(gd (x16.rows.getD x12.int.toNat []) 0),.i (w64 ((gd (x16.rows.getD x12.int.toNat []) 0).int+1))]) then ob false
 else nx [x0,x1,x2,x3,x4,x5,x6,x7,x8,x9,x10,x11,.i (w64 (x12.int+1)),x13,x14,x15,x16,x17,x18,x19,x20,x21])
 else ex 2 [x0,x1,x2,x3,x4,x5,x6,x7,x8,x9,x10,x11,x12,x13,x14,x15,x16,x17,x18,x19,x20,x21]:=by kernel_rfl
theorem s_ShardOkR4 (N:Nat) (p:List D) (x0 x1 x2 x3 x4 x5 x6 x7 x8 x9 x10 x11 x12 x13 x14 x15 x16 x17 x18 x19 x20 x21 x22:D):(s_ShardOkL4 N p) [x0,x1,x2,x3,x4,x5,x6,x7,x8,x9,x10,x11,x12,x13,x14,x15,x16,x17,x18,x19,x20,x21,x22] =
 bif ltI x13.int (x18.rows.length:Int) then nd (inRange x13.int x18.rows.length) (bif !(rangesHave x15 [(gd (x18.rows.getD x13.int.toNat []) 1),(gd (x18.rows.getD x13.int.toNat []) 2)]) then ob false
 else bif hasInt x20 (gd (x18.rows.getD x13.int.toNat []) 0).int then ob false
 else bif hasInt x21 (gd (x18.rows.getD x13.int.toNat []) 0).int then ob false
 else nx [x0,x1,x2,x3,x4,x5,x6,x7,x8,x9,x10,x11,x12,.i (w64 (x13.int+1)),x14,x15,x16,x17,x18,x19,x20,x21,x22])
 else ex 4 [x0,x1,x2,x3,x4,x5,x6,x7,x8,x9,x10,x11,x12,x13,x14,x15,x16,x17,x18,x19,x20,x21,x22]:=by kernel_rfl
theorem s_ShardOkR6 (N:Nat) (p:List D) (x0 x1 x2 x3 x4 x5 x6 x7 x8 x9 x10 x11 x12 x13 x14 x15 x16 x17 x18 x19 x20 x21 x22 x23:D):(s_ShardOkL6 N p) [x0,x1,x2,x3,x4,x5,x6,x7,x8,x9,x10,x11,x12,x13,x14,x15,x16,x17,x18,x19,x20,x21,x22,x23] =
 bif ltI x14.int (x21.rows.length:Int) then nd (inRange x14.int x21.rows.length) (bif hasInt x22 (gd (x21.rows.getD x14.int.toNat []) 0).int then ob false
 else nx [x0,x1,x2,x3,x4,x5,x6,x7,x8,x9,x10,x11,x12,x13,.i (w64 (x14.int+1)),x15,x16,x17,x18,x19,x20,x21,x22,x23])
 else ex 6 [x0,x1,x2,x3,x4,x5,x6,x7,x8,x9,x10,x11,x12,x13,x14,x15,x16,x17,x18,x19,x20,x21,x22,x23]:=by kernel_rfl
noncomputable def s_ShardOks0 (N:Nat) (p:List D) (o6:Out):Out:=nd (leI ((gd o6.pay 20).rows.length:Int) 1000000000) (ob (leI (w64 (((gd o6.pay 18).rows.length:Int)+(newSum (gd o6.pay 18) (gd o6.pay 20) (gd o6.pay 20).rows.length))) 60))
noncomputable def s_ShardOks1 (N:Nat) (p:List D) (o6:Out):Out:=bif o6.code==1 then some (1,o6.pay) else nd (o6.code==8) (bif heldsOkS (sub o6.pay 15 9) then (s_ShardOks0 N p o6) else ob false)
noncomputable def s_ShardOks2 (N:Nat) (p:List D) (o4:Out):Out:=let o6:Out:=iter (s_ShardOkL6 N p) N [gd o4.pay 0,gd o4.pay 1,gd o4.pay 2,gd o4.pay 3,gd o4.pay 4,gd o4.pay 5,gd o4.pay 6,gd o4.pay 7,gd o4.pay 8,gd o4.pay 9,gd o4.pay 10,gd o4.pay 11,gd o4.pay 12,gd o4.pay 13,.i 0,gd o4.pay 14,gd o4.pay 15,gd o4.pay 16,gd o4.pay 17,gd o4.pay 18,gd o4.pay 19,gd o4.pay 20,gd o4.pay 21,gd o4.pay 22]; nd o6.isSome (s_ShardOks1 N p o6)
noncomputable def s_ShardOks3 (N:Nat) (p:List D) (o2:Out):Out:=let o4:Out:=iter (s_ShardOkL4 N p) N [gd o2.pay 0,gd o2.pay 1,gd o2.pay 2,gd o2.pay 3,gd o2.pay 4,gd o2.pay 5,gd o2.pay 6,gd o2.pay 7,gd o2.pay 8,gd o2.pay 9,gd o2.pay 10,gd o2.pay 11,gd o2.pay 12,.i 0,gd o2.pay 13,gd o2.pay 14,gd o2.pay 15,gd o2.pay 16,gd o2.pay 17,gd o2.pay 18,gd o2.pay 19,gd o2.pay 20,gd o2.pay 21]; nd o4.isSome (bif o4.code==1 then some (1,o4.pay) else nd (o4.code==6) (s_ShardOks2 N p o4))
noncomputable def s_ShardOks4 (N:Nat) (p:List D) (o0:Out):Out:=let o2:Out:=iter (s_ShardOkL2 N p) N [gd o0.pay 0,gd o0.pay 1,gd o0.pay 2,gd o0.pay 3,gd o0.pay 4,gd o0.pay 5,gd o0.pay 6,gd o0.pay 7,gd o0.pay 8,gd o0.pay 9,gd o0.pay 10,gd o0.pay 11,.i 0,gd o0.pay 12,gd o0.pay 13,gd o0.pay 14,gd o0.pay 15,gd o0.pay 16,gd o0.pay 17,gd o0.pay 18,gd o0.pay 19,gd o0.pay 20]; nd o2.isSome (bif o2.code==1 then some (1,o2.pay) else nd (o2.code==4) (s_ShardOks3 N p o2))
noncomputable def s_ShardOks5 (N:Nat) (p:List D):Out:=let o0:Out:=iter (s_ShardOkL0 N p) N [gd p 0,gd p 1,gd p 2,gd p 3,gd p 4,gd p 5,gd p 6,gd p 7,gd p 8,.i 0,.i 0,.i 0,gd p 0,gd p 1,gd p 2,gd p 3,gd p 4,gd p 5,gd p 6,gd p 7,gd p 8]; nd o0.isSome (bif o0.code==1 then some (1,o0.pay) else nd (o0.code==2) (s_ShardOks4 N p o0))
noncomputable def s_ShardOks6 (N:Nat) (p:List D):Out:=bif ltI 60 ((gd p 7).rows.length:Int) then ob false else bif !(ascOk (gd p 6)) then ob false else bif !(ascOk (gd p 7)) then ob false else (s_ShardOks5 N p)
noncomputable def s_ShardOks7 (N:Nat) (p:List D):Out:=bif ltI 60 ((gd p 5).rows.length:Int) then ob false else bif ltI 60 ((gd p 6).rows.length:Int) then ob false else (s_ShardOks6 N p)
noncomputable def s_ShardOks8 (N:Nat) (p:List D):Out:=bif !(locksOk (gd p 4)) then ob false else bif !(inB (gd p 8).int 0 1000000) then ob false else (s_ShardOks7 N p)
noncomputable def s_ShardOks9 (N:Nat) (p:List D):Out:=bif !(rangesOk (gd p 2)) then ob false else bif !(storeOk (gd p 3)) then ob false else (s_ShardOks8 N p)
noncomputable def s_ShardOks10 (N:Nat) (p:List D):Out:=bif !(inB (gd p 0).int 0 3) then ob false else bif !(rangesOk (gd p 1)) then ob false else (s_ShardOks9 N p)
theorem s_ShardOk_ev (N:Nat) (p:List D):evFn Tryz.prog s_ShardOkT N s_ShardOkK Tryz.f51 rb [⟨ag rIShard,p⟩]=some (bo,(s_ShardOks10 N p)):=by kernel_rfl
def shardC0 (p:List D) (k:Nat):Bool:=rangesHave (gd p 1) (sub ((gd p 2).rows.getD k []) 0 2)
def shardC2 (p:List D) (k:Nat):Bool:=rangesHave (gd p 1) [gd ((gd p 3).rows.getD k []) 0,.i (w64 ((gd ((gd p 3).rows.getD k []) 0).int+1))]
def shardC4 (p:List D) (k:Nat):Bool:=(rangesHave (gd p 1) [gd ((gd p 4).rows.getD k []) 1,gd ((gd p 4).rows.getD k []) 2]&&(!hasInt (gd p 6) (gd ((gd p 4).rows.getD k []) 0).int && !hasInt (gd p 7) (gd ((gd p 4).rows.getD k []) 0).int))
def shardC6 (p:List D) (k:Nat):Bool:= !hasInt (gd p 7) (gd ((gd p 6).rows.getD k []) 0).int
def shardA (p:List D) (f j:Nat) (C:List D→Nat→Bool):Bool:=(List.range (gd p f).rows.length).all (C p)
def shardSum (p:List D):Bool:=heldsOkS p&&leI (((gd p 3).rows.length:Int)+newSum (gd p 3) (gd p 5) (gd p 5).rows.length) 60
def shardOk (p:List D):Bool:=inB (gd p 0).int 0 3&&(rangesOk (gd p 1)&&(rangesOk (gd p 2)&&(storeOk (gd p 3)&&(locksOk (gd p 4)&&(inB (gd p 8).int 0 1000000&&(leI ((gd p 5).rows.length:Int) 60&&(leI ((gd p 6).rows.length:Int) 60&&(leI ((gd p 7).rows.length:Int) 60&&(ascOk (gd p 6)&&(ascOk (gd p 7)&&(shardA p 2 0 shardC0&&(shardA p 3 2 shardC2&&(shardA p 4 4 shardC4&&(shardA p 6 6 shardC6&&(shardSum p)))))))))))))))
theorem s_ShardOkI0 (p:List D) (N:Nat) (hN:(gd p 2).rows.length<N) (hl:(gd p 2).rows.length≤9223372036854775807):iter (s_ShardOkL0 N p) N [gd p 0,gd p 1,gd p 2,gd p 3,gd p 4,gd p 5,gd p 6,gd p 7,gd p 8,.i 0,.i 0,.i 0,gd p 0,gd p 1,gd p 2,gd p 3,gd p 4,gd p 5,gd p 6,gd p 7,gd p 8]=some (bif shardA p 2 0 shardC0 then (2,[gd p 0,gd p 1,gd p 2,gd p 3,gd p 4,gd p 5,gd p 6,gd p 7,gd p 8,.i 0,.i 0,.i ((gd p 2).rows.length:Int),gd p 0,gd p 1,gd p 2,gd p 3,gd p 4,gd p 5,gd p 6,gd p 7,gd p 8]) else (1,[.b false])):=by
 have e:=for_loop (L:=s_ShardOkL0 N p) (fun k => [gd p 0,gd p 1,gd p 2,gd p 3,gd p 4,gd p 5,gd p 6,gd p 7,gd p 8,.i 0,.i 0,.i (k:Int),gd p 0,gd p 1,gd p 2,gd p 3,gd p 4,gd p 5,gd p 6,gd p 7,gd p 8]) (gd p 2).rows.length (shardC0 p) [.b false] 0 (fun k hk=>?_) ?_ (N:=N) hN
 ·simp only [Int.natCast_zero] at e
  exact e
 ·show s_ShardOkL0 _ p [_,_,_,_,_,_,_,_,_,_,_,.i (k:Int),_,_,_,_,_,_,_,_,_]=_
  rw [s_ShardOkR0]
  simp only [int_i,c_lt hk,nd_ix hk,w64_succ hk hl,Int.toNat_natCast]
  unfold shardC0
  cases rangesHave (gd p 1) (sub ((gd p 2).rows.getD k []) 0 2) <;> rfl
 ·show s_ShardOkL0 _ p [_,_,_,_,_,_,_,_,_,_,_,.i ((gd p 2).rows.length:Int),_,_,_,_,_,_,_,_,_]=_
  rw [s_ShardOkR0]
  simp only [int_i,c_nlt]
theorem s_ShardOkI2 (p:List D) (N:Nat) (hN:(gd p 3).rows.length<N) (hl:(gd p 3).rows.length≤9223372036854775807):iter (s_ShardOkL2 N p) N [gd p 0,gd p 1,gd p 2,gd p 3,gd p 4,gd p 5,gd p 6,gd p 7,gd p 8,.i 0,.i 0,.i ((gd p 2).rows.length:Int),.i 0,gd p 0,gd p 1,gd p 2,gd p 3,gd p 4,gd p 5,gd p 6,gd p 7,gd p 8]=some (bif shardA p 3 2 shardC2 then (4,[gd p 0,gd p 1,gd p 2,gd p 3,gd p 4,gd p 5,gd p 6,gd p 7,gd p 8,.i 0,.i 0,.i ((gd p 2).rows.length:Int),.i ((gd p 3).rows.length:Int),gd p 0,gd p 1,gd p 2,gd p 3,gd p 4,gd p 5,gd p 6,gd p 7,gd p 8]) else (1,[.b false])):=by
 have e:=for_loop (L:=s_ShardOkL2 N p) (fun k => [gd p 0,gd p 1,gd p 2,gd p 3,gd p 4,gd p 5,gd p 6,gd p 7,gd p 8,.i 0,.i 0,.i ((gd p 2).rows.length:Int),.i (k:Int),gd p 0,gd p 1,gd p 2,gd p 3,gd p 4,gd p 5,gd p 6,gd p 7,gd p 8]) (gd p 3).rows.length (shardC2 p) [.b false] 2 (fun k hk=>?_) ?_ (N:=N) hN
 ·simp only [Int.natCast_zero] at e
  exact e
 ·show s_ShardOkL2 _ p [_,_,_,_,_,_,_,_,_,_,_,_,.i (k:Int),_,_,_,_,_,_,_,_,_]=_
  rw [s_ShardOkR2]
  simp only [int_i,c_lt hk,nd_ix hk,w64_succ hk hl,Int.toNat_natCast]
  unfold shardC2
  cases rangesHave (gd p 1) [gd ((gd p 3).rows.getD k []) 0,.i (w64 ((gd ((gd p 3).rows.getD k []) 0).int+1))] <;> rfl
 ·show s_ShardOkL2 _ p [_,_,_,_,_,_,_,_,_,_,_,_,.i ((gd p 3).rows.length:Int),_,_,_,_,_,_,_,_,_]=_
  rw [s_ShardOkR2]
  simp only [int_i,c_nlt]
theorem s_ShardOkI4 (p:List D) (N:Nat) (hN:(gd p 4).rows.length<N) (hl:(gd p 4).rows.length≤9223372036854775807):iter (s_ShardOkL4 N p) N [gd p 0,gd p 1,gd p 2,gd p 3,gd p 4,gd p 5,gd p 6,gd p 7,gd p 8,.i 0,.i 0,.i ((gd p 2).rows.length:Int),.i ((gd p 3).rows.length:Int),.i 0,gd p 0,gd p 1,gd p 2,gd p 3,gd p 4,gd p 5,gd p 6,gd p 7,gd p 8]=some (bif shardA p 4 4 shardC4 then (6,[gd p 0,gd p 1,gd p 2,gd p 3,gd p 4,gd p 5,gd p 6,gd p 7,gd p 8,.i 0,.i 0,.i ((gd p 2).rows.length:Int),.i ((gd p 3).rows.length:Int),.i ((gd p 4).rows.length:Int),gd p 0,gd p 1,gd p 2,gd p 3,gd p 4,gd p 5,gd p 6,gd p 7,gd p 8]) else (1,[.b false])):=by
 have e:=for_loop (L:=s_ShardOkL4 N p) (fun k => [gd p 0,gd p 1,gd p 2,gd p 3,gd p 4,gd p 5,gd p 6,gd p 7,gd p 8,.i 0,.i 0,.i ((gd p 2).rows.length:Int),.i ((gd p 3).rows.length:Int),.i (k:Int),gd p 0,gd p 1,gd p 2,gd p 3,gd p 4,gd p 5,gd p 6,gd p 7,gd p 8]) (gd p 4).rows.length (shardC4 p) [.b false] 4 (fun k hk=>?_) ?_ (N:=N) hN
 ·simp only [Int.natCast_zero] at e
  exact e
 ·show s_ShardOkL4 _ p [_,_,_,_,_,_,_,_,_,_,_,_,_,.i (k:Int),_,_,_,_,_,_,_,_,_]=_
  rw [s_ShardOkR4]
  simp only [int_i,c_lt hk,nd_ix hk,w64_succ hk hl,Int.toNat_natCast]
  unfold shardC4
  cases rangesHave (gd p 1) [gd ((gd p 4).rows.getD k []) 1,gd ((gd p 4).rows.getD k []) 2] <;> cases hasInt (gd p 6) (gd ((gd p 4).rows.getD k []) 0).int <;> cases hasInt (gd p 7) (gd ((gd p 4).rows.getD k []) 0).int <;> rfl
 ·show s_ShardOkL4 _ p [_,_,_,_,_,_,_,_,_,_,_,_,_,.i ((gd p 4).rows.length:Int),_,_,_,_,_,_,_,_,_]=_
  rw [s_ShardOkR4]
  simp only [int_i,c_nlt]
theorem s_ShardOkI6 (p:List D) (N:Nat) (hN:(gd p 6).rows.length<N) (hl:(gd p 6).rows.length≤9223372036854775807):iter (s_ShardOkL6 N p) N [gd p 0,gd p 1,gd p 2,gd p 3,gd p 4,gd p 5,gd p 6,gd p 7,gd p 8,.i 0,.i 0,.i ((gd p 2).rows.length:Int),.i ((gd p 3).rows.length:Int),.i ((gd p 4).rows.length:Int),.i 0,gd p 0,gd p 1,gd p 2,gd p 3,gd p 4,gd p 5,gd p 6,gd p 7,gd p 8]=some (bif shardA p 6 6 shardC6 then (8,[gd p 0,gd p 1,gd p 2,gd p 3,gd p 4,gd p 5,gd p 6,gd p 7,gd p 8,.i 0,.i 0,.i ((gd p 2).rows.length:Int),.i ((gd p 3).rows.length:Int),.i ((gd p 4).rows.length:Int),.i ((gd p 6).rows.length:Int),gd p 0,gd p 1,gd p 2,gd p 3,gd p 4,gd p 5,gd p 6,gd p 7,gd p 8]) else (1,[.b false])):=by
 have e:=for_loop (L:=s_ShardOkL6 N p) (fun k => [gd p 0,gd p 1,gd p 2,gd p 3,gd p 4,gd p 5,gd p 6,gd p 7,gd p 8,.i 0,.i 0,.i ((gd p 2).rows.length:Int),.i ((gd p 3).rows.length:Int),.i ((gd p 4).rows.length:Int),.i (k:Int),gd p 0,gd p 1,gd p 2,gd p 3,gd p 4,gd p 5,gd p 6,gd p 7,gd p 8]) (gd p 6).rows.length (shardC6 p) [.b false] 6 (fun k hk=>?_) ?_ (N:=N) hN
 ·simp only [Int.natCast_zero] at e
  exact e
 ·show s_ShardOkL6 _ p [_,_,_,_,_,_,_,_,_,_,_,_,_,_,.i (k:Int),_,_,_,_,_,_,_,_,_]=_
  rw [s_ShardOkR6]
  simp only [int_i,c_lt hk,nd_ix hk,w64_succ hk hl,Int.toNat_natCast]
  unfold shardC6
  cases hasInt (gd p 7) (gd ((gd p 6).rows.getD k []) 0).int <;> rfl
 ·show s_ShardOkL6 _ p [_,_,_,_,_,_,_,_,_,_,_,_,_,_,.i ((gd p 6).rows.length:Int),_,_,_,_,_,_,_,_,_]=_
  rw [s_ShardOkR6]
  simp only [int_i,c_nlt]
theorem lt60 (n:Nat):ltI 60 (n:Int) = !leI (n:Int) 60:=by
 rw [Bool.eq_iff_iff]; simp only [ltI,leI,decide_eq_true_eq,Bool.not_eq_true',decide_eq_false_iff_not]; omega
theorem s_ShardOkx1 (p:List D) (N:Nat) (h5:leI ((gd p 5).rows.length:Int) 60=true) (h3:storeOk (gd p 3)=true):s_ShardOks1 N p (some (8,[gd p 0,gd p 1,gd p 2,gd p 3,gd p 4,gd p 5,gd p 6,gd p 7,gd p 8,.i 0,.i 0,.i ((gd p 2).rows.length:Int),.i ((gd p 3).rows.length:Int),.i ((gd p 4).rows.length:Int),.i ((gd p 6).rows.length:Int),gd p 0,gd p 1,gd p 2,gd p 3,gd p 4,gd p 5,gd p 6,gd p 7,gd p 8]))=ob (shardSum p):=by
 simp only [leI,decide_eq_true_eq] at h5
 have hs:=(store_sorted h3).len
 have hn:=newSum_in (gd p 3) (gd p 5) (gd p 5).rows.length
 rw [show s_ShardOks1 N p (some (8,[gd p 0,gd p 1,gd p 2,gd p 3,gd p 4,gd p 5,gd p 6,gd p 7,gd p 8,.i 0,.i 0,.i ((gd p 2).rows.length:Int),.i ((gd p 3).rows.length:Int),.i ((gd p 4).rows.length:Int),.i ((gd p 6).rows.length:Int),gd p 0,gd p 1,gd p 2,gd p 3,gd p 4,gd p 5,gd p 6,gd p 7,gd p 8]))=(bif heldsOkS p then nd (leI ((gd p 5).rows.length:Int) 1000000000) (ob (leI (w64 (((gd p 3).rows.length:Int)+newSum (gd p 3) (gd p 5) (gd p 5).rows.length)) 60)) else ob false) from by kernel_rfl]
 rw [leI_t (show ((gd p 5).rows.length:Int)≤1000000000 from by omega),nd_true,w64_id (by omega) (by omega)]
 unfold shardSum
 cases heldsOkS p <;> rfl
theorem s_ShardOkx2 (p:List D) (N:Nat) (hN:((gd p 2).rows.length+(gd p 3).rows.length+(gd p 4).rows.length+(gd p 6).rows.length+1)≤N) (hl:∀ j,j ∈ [2,3,4,6]→(gd p j).rows.length≤9223372036854775807) (h5:leI ((gd p 5).rows.length:Int) 60=true) (h3:storeOk (gd p 3)=true):s_ShardOks2 N p (some (6,[gd p 0,gd p 1,gd p 2,gd p 3,gd p 4,gd p 5,gd p 6,gd p 7,gd p 8,.i 0,.i 0,.i ((gd p 2).rows.length:Int),.i ((gd p 3).rows.length:Int),.i ((gd p 4).rows.length:Int),gd p 0,gd p 1,gd p 2,gd p 3,gd p 4,gd p 5,gd p 6,gd p 7,gd p 8]))=ob (shardA p 6 6 shardC6&&(shardSum p)):=by
 rw [show s_ShardOks2 N p (some (6,[gd p 0,gd p 1,gd p 2,gd p 3,gd p 4,gd p 5,gd p 6,gd p 7,gd p 8,.i 0,.i 0,.i ((gd p 2).rows.length:Int),.i ((gd p 3).rows.length:Int),.i ((gd p 4).rows.length:Int),gd p 0,gd p 1,gd p 2,gd p 3,gd p 4,gd p 5,gd p 6,gd p 7,gd p 8]))=nd (iter (s_ShardOkL6 N p) N [gd p 0,gd p 1,gd p 2,gd p 3,gd p 4,gd p 5,gd p 6,gd p 7,gd p 8,.i 0,.i 0,.i ((gd p 2).rows.length:Int),.i ((gd p 3).rows.length:Int),.i ((gd p 4).rows.length:Int),.i 0,gd p 0,gd p 1,gd p 2,gd p 3,gd p 4,gd p 5,gd p 6,gd p 7,gd p 8]).isSome (s_ShardOks1 N p (iter (s_ShardOkL6 N p) N [gd p 0,gd p 1,gd p 2,gd p 3,gd p 4,gd p 5,gd p 6,gd p 7,gd p 8,.i 0,.i 0,.i ((gd p 2).rows.length:Int),.i ((gd p 3).rows.length:Int),.i ((gd p 4).rows.length:Int),.i 0,gd p 0,gd p 1,gd p 2,gd p 3,gd p 4,gd p 5,gd p 6,gd p 7,gd p 8])) from by kernel_rfl]
 rw [s_ShardOkI6 p N (by omega) (hl 6 (by simp))]
 cases shardA p 6 6 shardC6
 ·rfl
 ·show s_ShardOks1 N p (some (8,[gd p 0,gd p 1,gd p 2,gd p 3,gd p 4,gd p 5,gd p 6,gd p 7,gd p 8,.i 0,.i 0,.i ((gd p 2).rows.length:Int),.i ((gd p 3).rows.length:Int),.i ((gd p 4).rows.length:Int),.i ((gd p 6).rows.length:Int),gd p 0,gd p 1,gd p 2,gd p 3,gd p 4,gd p 5,gd p 6,gd p 7,gd p 8]))=ob (true&&(shardSum p))
  rw [Bool.true_and]
  exact s_ShardOkx1 p N h5 h3
theorem s_ShardOkx3 (p:List D) (N:Nat) (hN:((gd p 2).rows.length+(gd p 3).rows.length+(gd p 4).rows.length+(gd p 6).rows.length+1)≤N) (hl:∀ j,j ∈ [2,3,4,6]→(gd p j).rows.length≤9223372036854775807) (h5:leI ((gd p 5).rows.length:Int) 60=true) (h3:storeOk (gd p 3)=true):s_ShardOks3 N p (some (4,[gd p 0,gd p 1,gd p 2,gd p 3,gd p 4,gd p 5,gd p 6,gd p 7,gd p 8,.i 0,.i 0,.i ((gd p 2).rows.length:Int),.i ((gd p 3).rows.length:Int),gd p 0,gd p 1,gd p 2,gd p 3,gd p 4,gd p 5,gd p 6,gd p 7,gd p 8]))=ob (shardA p 4 4 shardC4&&(shardA p 6 6 shardC6&&(shardSum p))):=by
 rw [show s_ShardOks3 N p (some (4,[gd p 0,gd p 1,gd p 2,gd p 3,gd p 4,gd p 5,gd p 6,gd p 7,gd p 8,.i 0,.i 0,.i ((gd p 2).rows.length:Int),.i ((gd p 3).rows.length:Int),gd p 0,gd p 1,gd p 2,gd p 3,gd p 4,gd p 5,gd p 6,gd p 7,gd p 8]))=nd (iter (s_ShardOkL4 N p) N [gd p 0,gd p 1,gd p 2,gd p 3,gd p 4,gd p 5,gd p 6,gd p 7,gd p 8,.i 0,.i 0,.i ((gd p 2).rows.length:Int),.i ((gd p 3).rows.length:Int),.i 0,gd p 0,gd p 1,gd p 2,gd p 3,gd p 4,gd p 5,gd p 6,gd p 7,gd p 8]).isSome (bif Out.code (iter (s_ShardOkL4 N p) N [gd p 0,gd p 1,gd p 2,gd p 3,gd p 4,gd p 5,gd p 6,gd p 7,gd p 8,.i 0,.i 0,.i ((gd p 2).rows.length:Int),.i ((gd p 3).rows.length:Int),.i 0,gd p 0,gd p 1,gd p 2,gd p 3,gd p 4,gd p 5,gd p 6,gd p 7,gd p 8])==1 then some (1,Out.pay (iter (s_ShardOkL4 N p) N [gd p 0,gd p 1,gd p 2,gd p 3,gd p 4,gd p 5,gd p 6,gd p 7,gd p 8,.i 0,.i 0,.i ((gd p 2).rows.length:Int),.i ((gd p 3).rows.length:Int),.i 0,gd p 0,gd p 1,gd p 2,gd p 3,gd p 4,gd p 5,gd p 6,gd p 7,gd p 8])) else nd (Out.code (iter (s_ShardOkL4 N p) N [gd p 0,gd p 1,gd p 2,gd p 3,gd p 4,gd p 5,gd p 6,gd p 7,gd p 8,.i 0,.i 0,.i ((gd p 2).rows.length:Int),.i ((gd p 3).rows.length:Int),.i 0,gd p 0,gd p 1,gd p 2,gd p 3,gd p 4,gd p 5,gd p 6,gd p 7,gd p 8])==6) (s_ShardOks2 N p (iter (s_ShardOkL4 N p) N [gd p 0,gd p 1,gd p 2,gd p 3,gd p 4,gd p 5,gd p 6,gd p 7,gd p 8,.i 0,.i 0,.i ((gd p 2).rows.length:Int),.i ((gd p 3).rows.length:Int),.i 0,gd p 0,gd p 1,gd p 2,gd p 3,gd p 4,gd p 5,gd p 6,gd p 7,gd p 8]))) from by kernel_rfl]
 rw [s_ShardOkI4 p N (by omega) (hl 4 (by simp))]
 cases shardA p 4 4 shardC4
 ·rfl
 ·show s_ShardOks2 N p (some (6,[gd p 0,gd p 1,gd p 2,gd p 3,gd p 4,gd p 5,gd p 6,gd p 7,gd p 8,.i 0,.i 0,.i ((gd p 2).rows.length:Int),.i ((gd p 3).rows.length:Int),.i ((gd p 4).rows.length:Int),gd p 0,gd p 1,gd p 2,gd p 3,gd p 4,gd p 5,gd p 6,gd p 7,gd p 8]))=ob (true&&(shardA p 6 6 shardC6&&(shardSum p)))
  rw [Bool.true_and]
  exact s_ShardOkx2 p N hN hl h5 h3
theorem s_ShardOkx4 (p:List D) (N:Nat) (hN:((gd p 2).rows.length+(gd p 3).rows.length+(gd p 4).rows.length+(gd p 6).rows.length+1)≤N) (hl:∀ j,j ∈ [2,3,4,6]→(gd p j).rows.length≤9223372036854775807) (h5:leI ((gd p 5).rows.length:Int) 60=true) (h3:storeOk (gd p 3)=true):s_ShardOks4 N p (some (2,[gd p 0,gd p 1,gd p 2,gd p 3,gd p 4,gd p 5,gd p 6,gd p 7,gd p 8,.i 0,.i 0,.i ((gd p 2).rows.length:Int),gd p 0,gd p 1,gd p 2,gd p 3,gd p 4,gd p 5,gd p 6,gd p 7,gd p 8]))=ob (shardA p 3 2 shardC2&&(shardA p 4 4 shardC4&&(shardA p 6 6 shardC6&&(shardSum p)))):=by
 rw [show s_ShardOks4 N p (some (2,[gd p 0,gd p 1,gd p 2,gd p 3,gd p 4,gd p 5,gd p 6,gd p 7,gd p 8,.i 0,.i 0,.i ((gd p 2).rows.length:Int),gd p 0,gd p 1,gd p 2,gd p 3,gd p 4,gd p 5,gd p 6,gd p 7,gd p 8]))=nd (iter (s_ShardOkL2 N p) N [gd p 0,gd p 1,gd p 2,gd p 3,gd p 4,gd p 5,gd p 6,gd p 7,gd p 8,.i 0,.i 0,.i ((gd p 2).rows.length:Int),.i 0,gd p 0,gd p 1,gd p 2,gd p 3,gd p 4,gd p 5,gd p 6,gd p 7,gd p 8]).isSome (bif Out.code (iter (s_ShardOkL2 N p) N [gd p 0,gd p 1,gd p 2,gd p 3,gd p 4,gd p 5,gd p 6,gd p 7,gd p 8,.i 0,.i 0,.i ((gd p 2).rows.length:Int),.i 0,gd p 0,gd p 1,gd p 2,gd p 3,gd p 4,gd p 5,gd p 6,gd p 7,gd p 8])==1 then some (1,Out.pay (iter (s_ShardOkL2 N p) N [gd p 0,gd p 1,gd p 2,gd p 3,gd p 4,gd p 5,gd p 6,gd p 7,gd p 8,.i 0,.i 0,.i ((gd p 2).rows.length:Int),.i 0,gd p 0,gd p 1,gd p 2,gd p 3,gd p 4,gd p 5,gd p 6,gd p 7,gd p 8])) else nd (Out.code (iter (s_ShardOkL2 N p) N [gd p 0,gd p 1,gd p 2,gd p 3,gd p 4,gd p 5,gd p 6,gd p 7,gd p 8,.i 0,.i 0,.i ((gd p 2).rows.length:Int),.i 0,gd p 0,gd p 1,gd p 2,gd p 3,gd p 4,gd p 5,gd p 6,gd p 7,gd p 8])==4) (s_ShardOks3 N p (iter (s_ShardOkL2 N p) N [gd p 0,gd p 1,gd p 2,gd p 3,gd p 4,gd p 5,gd p 6,gd p 7,gd p 8,.i 0,.i 0,.i ((gd p 2).rows.length:Int),.i 0,gd p 0,gd p 1,gd p 2,gd p 3,gd p 4,gd p 5,gd p 6,gd p 7,gd p 8]))) from by kernel_rfl]
 rw [s_ShardOkI2 p N (by omega) (hl 3 (by simp))]
 cases shardA p 3 2 shardC2
 ·rfl
 ·show s_ShardOks3 N p (some (4,[gd p 0,gd p 1,gd p 2,gd p 3,gd p 4,gd p 5,gd p 6,gd p 7,gd p 8,.i 0,.i 0,.i ((gd p 2).rows.length:Int),.i ((gd p 3).rows.length:Int),gd p 0,gd p 1,gd p 2,gd p 3,gd p 4,gd p 5,gd p 6,gd p 7,gd p 8]))=ob (true&&(shardA p 4 4 shardC4&&(shardA p 6 6 shardC6&&(shardSum p))))
  rw [Bool.true_and]
  exact s_ShardOkx3 p N hN hl h5 h3
theorem s_ShardOkx5 (p:List D) (N:Nat) (hN:((gd p 2).rows.length+(gd p 3).rows.length+(gd p 4).rows.length+(gd p 6).rows.length+1)≤N) (hl:∀ j,j ∈ [2,3,4,6]→(gd p j).rows.length≤9223372036854775807) (h5:leI ((gd p 5).rows.length:Int) 60=true) (h3:storeOk (gd p 3)=true):s_ShardOks5 N p=ob (shardA p 2 0 shardC0&&(shardA p 3 2 shardC2&&(shardA p 4 4 shardC4&&(shardA p 6 6 shardC6&&(shardSum p))))):=by
 rw [show s_ShardOks5 N p=nd (iter (s_ShardOkL0 N p) N [gd p 0,gd p 1,gd p 2,gd p 3,gd p 4,gd p 5,gd p 6,gd p 7,gd p 8,.i 0,.i 0,.i 0,gd p 0,gd p 1,gd p 2,gd p 3,gd p 4,gd p 5,gd p 6,gd p 7,gd p 8]).isSome (bif Out.code (iter (s_ShardOkL0 N p) N [gd p 0,gd p 1,gd p 2,gd p 3,gd p 4,gd p 5,gd p 6,gd p 7,gd p 8,.i 0,.i 0,.i 0,gd p 0,gd p 1,gd p 2,gd p 3,gd p 4,gd p 5,gd p 6,gd p 7,gd p 8])==1 then some (1,Out.pay (iter (s_ShardOkL0 N p) N [gd p 0,gd p 1,gd p 2,gd p 3,gd p 4,gd p 5,gd p 6,gd p 7,gd p 8,.i 0,.i 0,.i 0,gd p 0,gd p 1,gd p 2,gd p 3,gd p 4,gd p 5,gd p 6,gd p 7,gd p 8])) else nd (Out.code (iter (s_ShardOkL0 N p) N [gd p 0,gd p 1,gd p 2,gd p 3,gd p 4,gd p 5,gd p 6,gd p 7,gd p 8,.i 0,.i 0,.i 0,gd p 0,gd p 1,gd p 2,gd p 3,gd p 4,gd p 5,gd p 6,gd p 7,gd p 8])==2) (s_ShardOks4 N p (iter (s_ShardOkL0 N p) N [gd p 0,gd p 1,gd p 2,gd p 3,gd p 4,gd p 5,gd p 6,gd p 7,gd p 8,.i 0,.i 0,.i 0,gd p 0,gd p 1,gd p 2,gd p 3,gd p 4,gd p 5,gd p 6,gd p 7,gd p 8]))) from by kernel_rfl]
 rw [s_ShardOkI0 p N (by omega) (hl 2 (by simp))]
 cases shardA p 2 0 shardC0
 ·rfl
 ·show s_ShardOks4 N p (some (2,[gd p 0,gd p 1,gd p 2,gd p 3,gd p 4,gd p 5,gd p 6,gd p 7,gd p 8,.i 0,.i 0,.i ((gd p 2).rows.length:Int),gd p 0,gd p 1,gd p 2,gd p 3,gd p 4,gd p 5,gd p 6,gd p 7,gd p 8]))=ob (true&&(shardA p 3 2 shardC2&&(shardA p 4 4 shardC4&&(shardA p 6 6 shardC6&&(shardSum p)))))
  rw [Bool.true_and]
  exact s_ShardOkx4 p N hN hl h5 h3
theorem ob_step {a g:Bool} {x:Out} (h:a=true→x=ob g):(bif !a then ob false else x)=ob (a&&g):=by
 cases a
 ·rfl
 ·exact h rfl
def s_ShardOkE:Ent:=(51,e1 (ag rIShard) fun p=>(⟨rb,[.b (shardOk p)]⟩,true))
theorem s_ShardOk_ok:EntOk Tryz.prog s_ShardOkE:=e1_ok fun p h=>evFn_sound (N:=((gd p 2).rows.length+(gd p 3).rows.length+(gd p 4).rows.length+(gd p 6).rows.length+1)) (ks:=s_ShardOkK) (key:=bo) s_ShardOkT_ok (enters Tryz.func51) Tryz.func51 fun hw=>by
 rw [s_ShardOk_ev]
 have hl:∀ j,j ∈ [2,3,4,6]→(gd p j).rows.length≤9223372036854775807:=by
  intro j hj
  simp only [List.mem_cons,List.not_mem_nil,or_false] at hj
  rcases hj with rfl | rfl | rfl | rfl <;> exact wt_at (hw ⟨ag rIShard,p⟩ (by simp)) rfl
 refine congrArg (fun x=>some (bo,x)) ?_
 show s_ShardOks10 ((gd p 2).rows.length+(gd p 3).rows.length+(gd p 4).rows.length+(gd p 6).rows.length+1) p=ob (shardOk p)
 unfold s_ShardOks10 s_ShardOks9 s_ShardOks8 s_ShardOks7 s_ShardOks6 shardOk
 simp only [lt60]
 refine ob_step fun _=>?_
 refine ob_step fun _=>?_
 refine ob_step fun _=>?_
 refine ob_step fun h3=>?_
 refine ob_step fun _=>?_
 refine ob_step fun _=>?_
 refine ob_step fun h5=>?_
 refine ob_step fun _=>?_
 refine ob_step fun _=>?_
 refine ob_step fun _=>?_
 refine ob_step fun _=>?_
 exact s_ShardOkx5 p _ (Nat.le_refl _) hl h5 h3
end Go.Proofs.YtchceahcaaibcaaGreat
namespace Go.Proofs.YtchceahcaaibcaaGreat
set_option maxRecDepth 4096
set_option maxHeartbeats 1000000
abbrev s_TownOkT:FuncId→List T→Option (T × Bool):=find [s_AtlasOkE,s_l1InE,s_CoordOkE,s_l16OwnersInE,s_l16ClientsOkE,s_ShardOkE,s_LetterOkE,s_l16EventOkE]
theorem s_TownOkT_ok:CallOk Tryz.prog s_TownOkT:=find_ok (fC ⟨s_AtlasOk_ok,fC ⟨s_l1In_ok,fC ⟨s_CoordOk_ok,fC ⟨s_l16OwnersIn_ok,fC ⟨s_l16ClientsOk_ok,fC ⟨s_ShardOk_ok,fC ⟨s_LetterOk_ok,fC ⟨s_l16EventOk_ok,fN⟩⟩⟩⟩⟩⟩⟩⟩)
abbrev s_TownOkK:List Nat:= [0,1,2,3,4,5,6,43,70,73,92,97,128,133,145,1000043,1000070,1000073,1000092,1000097,1000128,1000133,1000145]
noncomputable def s_TownOkL0 (N:Nat) (p:List D):List D→Out:=loopOf Tryz.prog s_TownOkT N s_TownOkK Tryz.f14 rb [⟨ag rITown,p⟩] 0
noncomputable def s_TownOkL2 (N:Nat) (p:List D):List D→Out:=loopOf Tryz.prog s_TownOkT N s_TownOkK Tryz.f14 rb [⟨ag rITown,p⟩] 2
noncomputable def s_TownOkL4 (N:Nat) (p:List D):List D→Out:=loopOf Tryz.prog s_TownOkT N s_TownOkK Tryz.f14 rb [⟨ag rITown,p⟩] 4
theorem s_TownOkR0 (N:Nat) (p:List D) (x0 x1 x2 x3 x4 x5 x6 x7 x8 x9 x10 x11 x12 x13 x14 x15 x16 x17 x18 x19 x20 x21 x22 x23 x24 x25 x26 x27 x28 x29 x30 x31 x32 x33:D):(s_TownOkL0 N p) [x0,x1,x2,x3,x4,x5,x6,x7,x8,x9,x10,x11,x12,x13,x14,x15,x16,x17,x18,x19,x20,x21,x22,x23,x24,x25,x26,x27,x28,x29,x30,x31,x32,x33] =
 bif ltI x18.int x17.int then nd (inRange x18.int x28.rows.length) (bif !(shardOk (sub (x28.rows.getD x18.int.toNat []) 0 9)) then ob false
 else nd (inRange x18.int x28.rows.length) (bif (gd (x28.rows.getD x18.int.toNat []) 0).int != x18.int then ob false
 else nx [x0,x1,x2,x3,x4,x5,x6,x7,x8,x9,x10,x11,x12,x13,x14,x15,x16,x17,.i (w64 (x18.int+1)),x19,x20,x21,x22,x23,x24,x25,x26,x27,x28,x29,x30,x31,x32,x33]))
 else ex 0 [x0,x1,x2,x3,x4,x5,x6,x7,x8,x9,x10,x11,x12,x13,x14,x15,x16,x17,x18,x19,x20,x21,x22,x23,x24,x25,x26,x27,x28,x29,x30,x31,x32,x33]:=by kernel_rfl
theorem s_TownOkR2 (N:Nat) (p:List D) (x0 x1 x2 x3 x4 x5 x6 x7 x8 x9 x10 x11 x12 x13 x14 x15 x16 x17 x18 x19 x20 x21 x22 x23 x24 x25 x26 x27 x28 x29 x30 x31 x32 x33 x34:D):(s_TownOkL2 N p) [x0,x1,x2,x3,x4,x5,x6,x7,x8,x9,x10,x11,x12,x13,x14,x15,x16,x17,x18,x19,x20,x21,x22,x23,x24,x25,x26,x27,x28,x29,x30,x31,x32,x33,x34] =
 bif ltI x19.int (x33.rows.length:Int) then nd (inRange x19.int x33.rows.length) (bif !(letterOk (sub (x33.rows.getD x19.int.toNat []) 0 14)) then ob false
 else nd (inRange x19.int x33.rows.length) (bif leI x17.int (gd (x33.rows.getD x19.int.toNat []) 1).int then ob false
 else nd (inRange x19.int x33.rows.length) (bif leI (x32.rows.length:Int) (gd (x33.rows.getD x19.int.toNat []) 2).int then ob false
 else nx [x0,x1,x2,x3,x4,x5,x6,x7,x8,x9,x10,x11,x12,x13,x14,x15,x16,x17,x18,.i (w64 (x19.int+1)),x20,x21,x22,x23,x24,x25,x26,x27,x28,x29,x30,x31,x32,x33,x34])))
 else ex 2 [x0,x1,x2,x3,x4,x5,x6,x7,x8,x9,x10,x11,x12,x13,x14,x15,x16,x17,x18,x19,x20,x21,x22,x23,x24,x25,x26,x27,x28,x29,x30,x31,x32,x33,x34]:=by kernel_rfl
theorem s_TownOkR4 (N:Nat) (p:List D) (x0 x1 x2 x3 x4 x5 x6 x7 x8 x9 x10 x11 x12 x13 x14 x15 x16 x17 x18 x19 x20 x21 x22 x23 x24 x25 x26 x27 x28 x29 x30 x31 x32 x33 x34 x35:D):(s_TownOkL4 N p) [x0,x1,x2,x3,x4,x5,x6,x7,x8,x9,x10,x11,x12,x13,x14,x15,x16,x17,x18,x19,x20,x21,x22,x23,x24,x25,x26,x27,x28,x29,x30,x31,x32,x33,x34,x35] =
 bif ltI x20.int (x35.rows.length:Int) then nd (inRange x20.int x35.rows.length) (bif !(eventOk (sub (x35.rows.getD x20.int.toNat []) 0 7) (x33.rows.length:Int)) then ob false
 else nx [x0,x1,x2,x3,x4,x5,x6,x7,x8,x9,x10,x11,x12,x13,x14,x15,x16,x17,x18,x19,.i (w64 (x20.int+1)),x21,x22,x23,x24,x25,x26,x27,x28,x29,x30,x31,x32,x33,x34,x35])
 else ex 4 [x0,x1,x2,x3,x4,x5,x6,x7,x8,x9,x10,x11,x12,x13,x14,x15,x16,x17,x18,x19,x20,x21,x22,x23,x24,x25,x26,x27,x28,x29,x30,x31,x32,x33,x34,x35]:=by kernel_rfl
noncomputable def s_TownOks0 (N:Nat) (p:List D) (o2:Out):Out:=let o4:Out:=iter (s_TownOkL4 N p) N [gd o2.pay 0,gd o2.pay 1,gd o2.pay 2,gd o2.pay 3,gd o2.pay 4,gd o2.pay 5,gd o2.pay 6,gd o2.pay 7,gd o2.pay 8,gd o2.pay 9,gd o2.pay 10,gd o2.pay 11,gd o2.pay 12,gd o2.pay 13,gd o2.pay 14,gd o2.pay 15,gd o2.pay 16,gd o2.pay 17,gd o2.pay 18,gd o2.pay 19,.i 0,gd o2.pay 20,gd o2.pay 21,gd o2.pay 22,gd o2.pay 23,gd o2.pay 24,gd o2.pay 25,gd o2.pay 26,gd o2.pay 27,gd o2.pay 28,gd o2.pay 29,gd o2.pay 30,gd o2.pay 31,gd o2.pay 32,gd o2.pay 33,gd o2.pay 34]; nd o4.isSome (bif o4.code==1 then some (1,o4.pay) else nd (o4.code==6) (ob true))
noncomputable def s_TownOks1 (N:Nat) (p:List D) (o0:Out):Out:=let o2:Out:=iter (s_TownOkL2 N p) N [gd o0.pay 0,gd o0.pay 1,gd o0.pay 2,gd o0.pay 3,gd o0.pay 4,gd o0.pay 5,gd o0.pay 6,gd o0.pay 7,gd o0.pay 8,gd o0.pay 9,gd o0.pay 10,gd o0.pay 11,gd o0.pay 12,gd o0.pay 13,gd o0.pay 14,gd o0.pay 15,gd o0.pay 16,gd o0.pay 17,gd o0.pay 18,.i 0,gd o0.pay 19,gd o0.pay 20,gd o0.pay 21,gd o0.pay 22,gd o0.pay 23,gd o0.pay 24,gd o0.pay 25,gd o0.pay 26,gd o0.pay 27,gd o0.pay 28,gd o0.pay 29,gd o0.pay 30,gd o0.pay 31,gd o0.pay 32,gd o0.pay 33]; nd o2.isSome (bif o2.code==1 then some (1,o2.pay) else nd (o2.code==4) (s_TownOks0 N p o2))
noncomputable def s_TownOks2 (N:Nat) (p:List D):Out:=let o0:Out:=iter (s_TownOkL0 N p) N [gd p 0,gd p 1,gd p 2,gd p 3,gd p 4,gd p 5,gd p 6,gd p 7,gd p 8,gd p 9,gd p 10,gd p 11,gd p 12,gd p 13,gd p 14,.i 0,.i 0,.i ((gd p 9).rows.length:Int),.i 0,gd p 0,gd p 1,gd p 2,gd p 3,gd p 4,gd p 5,gd p 6,gd p 7,gd p 8,gd p 9,gd p 10,gd p 11,gd p 12,gd p 13,gd p 14]; nd o0.isSome (bif o0.code==1 then some (1,o0.pay) else nd (o0.code==2) (s_TownOks1 N p o0))
noncomputable def s_TownOks3 (N:Nat) (p:List D):Out:=bif leI ((gd p 9).rows.length:Int) (gd p 7).int then ob false else bif !(clientsOk (gd p 12) ((gd p 9).rows.length:Int)) then ob false else (s_TownOks2 N p)
noncomputable def s_TownOks4 (N:Nat) (p:List D):Out:=bif !(ownersIn (gd p 1) ((gd p 9).rows.length:Int)) then ob false else bif leI ((gd p 9).rows.length:Int) (gd p 6).int then ob false else (s_TownOks3 N p)
noncomputable def s_TownOks5 (N:Nat) (p:List D):Out:=bif ltI 60 ((gd p 13).rows.length:Int) then ob false else bif ltI 200 ((gd p 14).rows.length:Int) then ob false else (s_TownOks4 N p)
noncomputable def s_TownOks6 (N:Nat) (p:List D):Out:=bif !(coordOk (sub p 10 2)) then ob false else bif !(inB ((gd p 12).rows.length:Int) 1 6) then ob false else (s_TownOks5 N p)
noncomputable def s_TownOks7 (N:Nat) (p:List D):Out:=bif !(atlasOk (sub p 0 9)) then ob false else bif !(inB ((gd p 9).rows.length:Int) 1 4) then ob false else (s_TownOks6 N p)
theorem s_TownOk_ev (N:Nat) (p:List D):evFn Tryz.prog s_TownOkT N s_TownOkK Tryz.f14 rb [⟨ag rITown,p⟩]=some (bo,(s_TownOks7 N p)):=by kernel_rfl
def townC0 (p:List D) (k:Nat):Bool:=shardOk (sub ((gd p 9).rows.getD k []) 0 9)&&((gd ((gd p 9).rows.getD k []) 0).int==(k:Int))
def townC2 (p:List D) (k:Nat):Bool:=letterOk (sub ((gd p 13).rows.getD k []) 0 14)&&(!leI ((gd p 9).rows.length:Int) (gd ((gd p 13).rows.getD k []) 1).int && !leI ((gd p 12).rows.length:Int) (gd ((gd p 13).rows.getD k []) 2).int)
def townC4 (p:List D) (k:Nat):Bool:=eventOk (sub ((gd p 14).rows.getD k []) 0 7) ((gd p 12).rows.length:Int)
def townOk (p:List D):Bool:=atlasOk (sub p 0 9)&&(inB ((gd p 9).rows.length:Int) 1 4&&(coordOk (sub p 10 2)&&(inB ((gd p 12).rows.length:Int) 1 6&&(leI ((gd p 13).rows.length:Int) 60&&(leI ((gd p 14).rows.length:Int) 200&&(ownersIn (gd p 1) ((gd p 9).rows.length:Int)&&(!leI ((gd p 9).rows.length:Int) (gd p 6).int&&(!leI ((gd p 9).rows.length:Int) (gd p 7).int&&(clientsOk (gd p 12) ((gd p 9).rows.length:Int)&&(shardA p 9 0 townC0&&(shardA p 13 2 townC2&&(shardA p 14 4 townC4))))))))))))
theorem s_TownOkI0 (p:List D) (N:Nat) (hN:(gd p 9).rows.length<N) (hl:(gd p 9).rows.length≤9223372036854775807):iter (s_TownOkL0 N p) N [gd p 0,gd p 1,gd p 2,gd p 3,gd p 4,gd p 5,gd p 6,gd p 7,gd p 8,gd p 9,gd p 10,gd p 11,gd p 12,gd p 13,gd p 14,.i 0,.i 0,.i ((gd p 9).rows.length:Int),.i 0,gd p 0,gd p 1,gd p 2,gd p 3,gd p 4,gd p 5,gd p 6,gd p 7,gd p 8,gd p 9,gd p 10,gd p 11,gd p 12,gd p 13,gd p 14]=some (bif shardA p 9 0 townC0 then (2,[gd p 0,gd p 1,gd p 2,gd p 3,gd p 4,gd p 5,gd p 6,gd p 7,gd p 8,gd p 9,gd p 10,gd p 11,gd p 12,gd p 13,gd p 14,.i 0,.i 0,.i ((gd p 9).rows.length:Int),.i ((gd p 9).rows.length:Int),gd p 0,gd p 1,gd p 2,gd p 3,gd p 4,gd p 5,gd p 6,gd p 7,gd p 8,gd p 9,gd p 10,gd p 11,gd p 12,gd p 13,gd p 14]) else (1,[.b false])):=by
 have e:=for_loop (L:=s_TownOkL0 N p) (fun k => [gd p 0,gd p 1,gd p 2,gd p 3,gd p 4,gd p 5,gd p 6,gd p 7,gd p 8,gd p 9,gd p 10,gd p 11,gd p 12,gd p 13,gd p 14,.i 0,.i 0,.i ((gd p 9).rows.length:Int),.i (k:Int),gd p 0,gd p 1,gd p 2,gd p 3,gd p 4,gd p 5,gd p 6,gd p 7,gd p 8,gd p 9,gd p 10,gd p 11,gd p 12,gd p 13,gd p 14]) (gd p 9).rows.length (townC0 p) [.b false] 0 (fun k hk=>?_) ?_ (N:=N) hN
 ·simp only [Int.natCast_zero] at e
  exact e
 ·show s_TownOkL0 _ p [_,_,_,_,_,_,_,_,_,_,_,_,_,_,_,_,_,.i ((gd p 9).rows.length:Int),.i (k:Int),_,_,_,_,_,_,_,_,_,_,_,_,_,_,_]=_
  rw [s_TownOkR0]
  simp only [int_i,c_lt hk,nd_ix hk,w64_succ hk hl,Int.toNat_natCast,bne_not]
  unfold townC0
  cases shardOk (sub ((gd p 9).rows.getD k []) 0 9) <;> cases ((gd ((gd p 9).rows.getD k []) 0).int==(k:Int)) <;> rfl
 ·show s_TownOkL0 _ p [_,_,_,_,_,_,_,_,_,_,_,_,_,_,_,_,_,.i ((gd p 9).rows.length:Int),.i ((gd p 9).rows.length:Int),_,_,_,_,_,_,_,_,_,_,_,_,_,_,_]=_
  rw [s_TownOkR0]
  simp only [int_i,c_nlt]
theorem s_TownOkI2 (p:List D) (N:Nat) (hN:(gd p 13).rows.length<N) (hl:(gd p 13).rows.length≤9223372036854775807):iter (s_TownOkL2 N p) N [gd p 0,gd p 1,gd p 2,gd p 3,gd p 4,gd p 5,gd p 6,gd p 7,gd p 8,gd p 9,gd p 10,gd p 11,gd p 12,gd p 13,gd p 14,.i 0,.i 0,.i ((gd p 9).rows.length:Int),.i ((gd p 9).rows.length:Int),.i 0,gd p 0,gd p 1,gd p 2,gd p 3,gd p 4,gd p 5,gd p 6,gd p 7,gd p 8,gd p 9,gd p 10,gd p 11,gd p 12,gd p 13,gd p 14]=some (bif shardA p 13 2 townC2 then (4,[gd p 0,gd p 1,gd p 2,gd p 3,gd p 4,gd p 5,gd p 6,gd p 7,gd p 8,gd p 9,gd p 10,gd p 11,gd p 12,gd p 13,gd p 14,.i 0,.i 0,.i ((gd p 9).rows.length:Int),.i ((gd p 9).rows.length:Int),.i ((gd p 13).rows.length:Int),gd p 0,gd p 1,gd p 2,gd p 3,gd p 4,gd p 5,gd p 6,gd p 7,gd p 8,gd p 9,gd p 10,gd p 11,gd p 12,gd p 13,gd p 14]) else (1,[.b false])):=by
 have e:=for_loop (L:=s_TownOkL2 N p) (fun k => [gd p 0,gd p 1,gd p 2,gd p 3,gd p 4,gd p 5,gd p 6,gd p 7,gd p 8,gd p 9,gd p 10,gd p 11,gd p 12,gd p 13,gd p 14,.i 0,.i 0,.i ((gd p 9).rows.length:Int),.i ((gd p 9).rows.length:Int),.i (k:Int),gd p 0,gd p 1,gd p 2,gd p 3,gd p 4,gd p 5,gd p 6,gd p 7,gd p 8,gd p 9,gd p 10,gd p 11,gd p 12,gd p 13,gd p 14]) (gd p 13).rows.length (townC2 p) [.b false] 2 (fun k hk=>?_) ?_ (N:=N) hN
 ·simp only [Int.natCast_zero] at e
  exact e
 ·show s_TownOkL2 _ p [_,_,_,_,_,_,_,_,_,_,_,_,_,_,_,_,_,.i ((gd p 9).rows.length:Int),_,.i (k:Int),_,_,_,_,_,_,_,_,_,_,_,_,_,_,_]=_
  rw [s_TownOkR2]
  simp only [int_i,c_lt hk,nd_ix hk,w64_succ hk hl,Int.toNat_natCast,bne_not]
  unfold townC2
  cases letterOk (sub ((gd p 13).rows.getD k []) 0 14) <;> cases leI ((gd p 9).rows.length:Int) (gd ((gd p 13).rows.getD k []) 1).int <;> cases leI ((gd p 12).rows.length:Int) (gd ((gd p 13).rows.getD k []) 2).int <;> rfl
 ·show s_TownOkL2 _ p [_,_,_,_,_,_,_,_,_,_,_,_,_,_,_,_,_,.i ((gd p 9).rows.length:Int),_,.i ((gd p 13).rows.length:Int),_,_,_,_,_,_,_,_,_,_,_,_,_,_,_]=_
  rw [s_TownOkR2]
  simp only [int_i,c_nlt]
theorem s_TownOkI4 (p:List D) (N:Nat) (hN:(gd p 14).rows.length<N) (hl:(gd p 14).rows.length≤9223372036854775807):iter (s_TownOkL4 N p) N [gd p 0,gd p 1,gd p 2,gd p 3,gd p 4,gd p 5,gd p 6,gd p 7,gd p 8,gd p 9,gd p 10,gd p 11,gd p 12,gd p 13,gd p 14,.i 0,.i 0,.i ((gd p 9).rows.length:Int),.i ((gd p 9).rows.length:Int),.i ((gd p 13).rows.length:Int),.i 0,gd p 0,gd p 1,gd p 2,gd p 3,gd p 4,gd p 5,gd p 6,gd p 7,gd p 8,gd p 9,gd p 10,gd p 11,gd p 12,gd p 13,gd p 14]=some (bif shardA p 14 4 townC4 then (6,[gd p 0,gd p 1,gd p 2,gd p 3,gd p 4,gd p 5,gd p 6,gd p 7,gd p 8,gd p 9,gd p 10,gd p 11,gd p 12,gd p 13,gd p 14,.i 0,.i 0,.i ((gd p 9).rows.length:Int),.i ((gd p 9).rows.length:Int),.i ((gd p 13).rows.length:Int),.i ((gd p 14).rows.length:Int),gd p 0,gd p 1,gd p 2,gd p 3,gd p 4,gd p 5,gd p 6,gd p 7,gd p 8,gd p 9,gd p 10,gd p 11,gd p 12,gd p 13,gd p 14]) else (1,[.b false])):=by
 have e:=for_loop (L:=s_TownOkL4 N p) (fun k => [gd p 0,gd p 1,gd p 2,gd p 3,gd p 4,gd p 5,gd p 6,gd p 7,gd p 8,gd p 9,gd p 10,gd p 11,gd p 12,gd p 13,gd p 14,.i 0,.i 0,.i ((gd p 9).rows.length:Int),.i ((gd p 9).rows.length:Int),.i ((gd p 13).rows.length:Int),.i (k:Int),gd p 0,gd p 1,gd p 2,gd p 3,gd p 4,gd p 5,gd p 6,gd p 7,gd p 8,gd p 9,gd p 10,gd p 11,gd p 12,gd p 13,gd p 14]) (gd p 14).rows.length (townC4 p) [.b false] 4 (fun k hk=>?_) ?_ (N:=N) hN
 ·simp only [Int.natCast_zero] at e
  exact e
 ·show s_TownOkL4 _ p [_,_,_,_,_,_,_,_,_,_,_,_,_,_,_,_,_,.i ((gd p 9).rows.length:Int),_,_,.i (k:Int),_,_,_,_,_,_,_,_,_,_,_,_,_,_,_]=_
  rw [s_TownOkR4]
  simp only [int_i,c_lt hk,nd_ix hk,w64_succ hk hl,Int.toNat_natCast,bne_not]
  unfold townC4
  cases eventOk (sub ((gd p 14).rows.getD k []) 0 7) ((gd p 12).rows.length:Int) <;> rfl
 ·show s_TownOkL4 _ p [_,_,_,_,_,_,_,_,_,_,_,_,_,_,_,_,_,.i ((gd p 9).rows.length:Int),_,_,.i ((gd p 14).rows.length:Int),_,_,_,_,_,_,_,_,_,_,_,_,_,_,_]=_
  rw [s_TownOkR4]
  simp only [int_i,c_nlt]
theorem lt200 (n:Nat):ltI 200 (n:Int) = !leI (n:Int) 200:=by
 rw [Bool.eq_iff_iff]; simp only [ltI,leI,decide_eq_true_eq,Bool.not_eq_true',decide_eq_false_iff_not]; omega
theorem ob_stepn {a g:Bool} {x:Out} (h:x=ob g):(bif a then ob false else x)=ob (!a&&g):=by
 cases a
 ·exact h
 ·rfl
theorem s_TownOkx0 (p:List D) (N:Nat) (hN:((gd p 9).rows.length+(gd p 13).rows.length+(gd p 14).rows.length+1)≤N) (hl:∀ j,j ∈ [9,13,14]→(gd p j).rows.length≤9223372036854775807):s_TownOks0 N p (some (4,[gd p 0,gd p 1,gd p 2,gd p 3,gd p 4,gd p 5,gd p 6,gd p 7,gd p 8,gd p 9,gd p 10,gd p 11,gd p 12,gd p 13,gd p 14,.i 0,.i 0,.i ((gd p 9).rows.length:Int),.i ((gd p 9).rows.length:Int),.i ((gd p 13).rows.length:Int),gd p 0,gd p 1,gd p 2,gd p 3,gd p 4,gd p 5,gd p 6,gd p 7,gd p 8,gd p 9,gd p 10,gd p 11,gd p 12,gd p 13,gd p 14]))=ob (shardA p 14 4 townC4):=by
 rw [show s_TownOks0 N p (some (4,[gd p 0,gd p 1,gd p 2,gd p 3,gd p 4,gd p 5,gd p 6,gd p 7,gd p 8,gd p 9,gd p 10,gd p 11,gd p 12,gd p 13,gd p 14,.i 0,.i 0,.i ((gd p 9).rows.length:Int),.i ((gd p 9).rows.length:Int),.i ((gd p 13).rows.length:Int),gd p 0,gd p 1,gd p 2,gd p 3,gd p 4,gd p 5,gd p 6,gd p 7,gd p 8,gd p 9,gd p 10,gd p 11,gd p 12,gd p 13,gd p 14]))=nd (iter (s_TownOkL4 N p) N [gd p 0,gd p 1,gd p 2,gd p 3,gd p 4,gd p 5,gd p 6,gd p 7,gd p 8,gd p 9,gd p 10,gd p 11,gd p 12,gd p 13,gd p 14,.i 0,.i 0,.i ((gd p 9).rows.length:Int),.i ((gd p 9).rows.length:Int),.i ((gd p 13).rows.length:Int),.i 0,gd p 0,gd p 1,gd p 2,gd p 3,gd p 4,gd p 5,gd p 6,gd p 7,gd p 8,gd p 9,gd p 10,gd p 11,gd p 12,gd p 13,gd p 14]).isSome (bif Out.code (iter (s_TownOkL4 N p) N [gd p 0,gd p 1,gd p 2,gd p 3,gd p 4,gd p 5,gd p 6,gd p 7,gd p 8,gd p 9,gd p 10,gd p 11,gd p 12,gd p 13,gd p 14,.i 0,.i 0,.i ((gd p 9).rows.length:Int),.i ((gd p 9).rows.length:Int),.i ((gd p 13).rows.length:Int),.i 0,gd p 0,gd p 1,gd p 2,gd p 3,gd p 4,gd p 5,gd p 6,gd p 7,gd p 8,gd p 9,gd p 10,gd p 11,gd p 12,gd p 13,gd p 14])==1 then some (1,Out.pay (iter (s_TownOkL4 N p) N [gd p 0,gd p 1,gd p 2,gd p 3,gd p 4,gd p 5,gd p 6,gd p 7,gd p 8,gd p 9,gd p 10,gd p 11,gd p 12,gd p 13,gd p 14,.i 0,.i 0,.i ((gd p 9).rows.length:Int),.i ((gd p 9).rows.length:Int),.i ((gd p 13).rows.length:Int),.i 0,gd p 0,gd p 1,gd p 2,gd p 3,gd p 4,gd p 5,gd p 6,gd p 7,gd p 8,gd p 9,gd p 10,gd p 11,gd p 12,gd p 13,gd p 14])) else nd (Out.code (iter (s_TownOkL4 N p) N [gd p 0,gd p 1,gd p 2,gd p 3,gd p 4,gd p 5,gd p 6,gd p 7,gd p 8,gd p 9,gd p 10,gd p 11,gd p 12,gd p 13,gd p 14,.i 0,.i 0,.i ((gd p 9).rows.length:Int),.i ((gd p 9).rows.length:Int),.i ((gd p 13).rows.length:Int),.i 0,gd p 0,gd p 1,gd p 2,gd p 3,gd p 4,gd p 5,gd p 6,gd p 7,gd p 8,gd p 9,gd p 10,gd p 11,gd p 12,gd p 13,gd p 14])==6) (ob true)) from by kernel_rfl]
 rw [s_TownOkI4 p N (by omega) (hl 14 (by simp))]
 cases shardA p 14 4 townC4 <;> rfl
theorem s_TownOkx1 (p:List D) (N:Nat) (hN:((gd p 9).rows.length+(gd p 13).rows.length+(gd p 14).rows.length+1)≤N) (hl:∀ j,j ∈ [9,13,14]→(gd p j).rows.length≤9223372036854775807):s_TownOks1 N p (some (2,[gd p 0,gd p 1,gd p 2,gd p 3,gd p 4,gd p 5,gd p 6,gd p 7,gd p 8,gd p 9,gd p 10,gd p 11,gd p 12,gd p 13,gd p 14,.i 0,.i 0,.i ((gd p 9).rows.length:Int),.i ((gd p 9).rows.length:Int),gd p 0,gd p 1,gd p 2,gd p 3,gd p 4,gd p 5,gd p 6,gd p 7,gd p 8,gd p 9,gd p 10,gd p 11,gd p 12,gd p 13,gd p 14]))=ob (shardA p 13 2 townC2&&(shardA p 14 4 townC4)):=by
 rw [show s_TownOks1 N p (some (2,[gd p 0,gd p 1,gd p 2,gd p 3,gd p 4,gd p 5,gd p 6,gd p 7,gd p 8,gd p 9,gd p 10,gd p 11,gd p 12,gd p 13,gd p 14,.i 0,.i 0,.i ((gd p 9).rows.length:Int),.i ((gd p 9).rows.length:Int),gd p 0,gd p 1,gd p 2,gd p 3,gd p 4,gd p 5,gd p 6,gd p 7,gd p 8,gd p 9,gd p 10,gd p 11,gd p 12,gd p 13,gd p 14]))=nd (iter (s_TownOkL2 N p) N [gd p 0,gd p 1,gd p 2,gd p 3,gd p 4,gd p 5,gd p 6,gd p 7,gd p 8,gd p 9,gd p 10,gd p 11,gd p 12,gd p 13,gd p 14,.i 0,.i 0,.i ((gd p 9).rows.length:Int),.i ((gd p 9).rows.length:Int),.i 0,gd p 0,gd p 1,gd p 2,gd p 3,gd p 4,gd p 5,gd p 6,gd p 7,gd p 8,gd p 9,gd p 10,gd p 11,gd p 12,gd p 13,gd p 14]).isSome (bif Out.code (iter (s_TownOkL2 N p) N [gd p 0,gd p 1,gd p 2,gd p 3,gd p 4,gd p 5,gd p 6,gd p 7,gd p 8,gd p 9,gd p 10,gd p 11,gd p 12,gd p 13,gd p 14,.i 0,.i 0,.i ((gd p 9).rows.length:Int),.i ((gd p 9).rows.length:Int),.i 0,gd p 0,gd p 1,gd p 2,gd p 3,gd p 4,gd p 5,gd p 6,gd p 7,gd p 8,gd p 9,gd p 10,gd p 11,gd p 12,gd p 13,gd p 14])==1 then some (1,Out.pay (iter (s_TownOkL2 N p) N [gd p 0,gd p 1,gd p 2,gd p 3,gd p 4,gd p 5,gd p 6,gd p 7,gd p 8,gd p 9,gd p 10,gd p 11,gd p 12,gd p 13,gd p 14,.i 0,.i 0,.i ((gd p 9).rows.length:Int),.i ((gd p 9).rows.length:Int),.i 0,gd p 0,gd p 1,gd p 2,gd p 3,gd p 4,gd p 5,gd p 6,gd p 7,gd p 8,gd p 9,gd p 10,gd p 11,gd p 12,gd p 13,gd p 14])) else nd (Out.code (iter (s_TownOkL2 N p) N [gd p 0,gd p 1,gd p 2,gd p 3,gd p 4,gd p 5,gd p 6,gd p 7,gd p 8,gd p 9,gd p 10,gd p 11,gd p 12,gd p 13,gd p 14,.i 0,.i 0,.i ((gd p 9).rows.length:Int),.i ((gd p 9).rows.length:Int),.i 0,gd p 0,gd p 1,gd p 2,gd p 3,gd p 4,gd p 5,gd p 6,gd p 7,gd p 8,gd p 9,gd p 10,gd p 11,gd p 12,gd p 13,gd p 14])==4) (s_TownOks0 N p (iter (s_TownOkL2 N p) N [gd p 0,gd p 1,gd p 2,gd p 3,gd p 4,gd p 5,gd p 6,gd p 7,gd p 8,gd p 9,gd p 10,gd p 11,gd p 12,gd p 13,gd p 14,.i 0,.i 0,.i ((gd p 9).rows.length:Int),.i ((gd p 9).rows.length:Int),.i 0,gd p 0,gd p 1,gd p 2,gd p 3,gd p 4,gd p 5,gd p 6,gd p 7,gd p 8,gd p 9,gd p 10,gd p 11,gd p 12,gd p 13,gd p 14]))) from by kernel_rfl]
 rw [s_TownOkI2 p N (by omega) (hl 13 (by simp))]
 cases shardA p 13 2 townC2
 ·rfl
 ·show s_TownOks0 N p (some (4,[gd p 0,gd p 1,gd p 2,gd p 3,gd p 4,gd p 5,gd p 6,gd p 7,gd p 8,gd p 9,gd p 10,gd p 11,gd p 12,gd p 13,gd p 14,.i 0,.i 0,.i ((gd p 9).rows.length:Int),.i ((gd p 9).rows.length:Int),.i ((gd p 13).rows.length:Int),gd p 0,gd p 1,gd p 2,gd p 3,gd p 4,gd p 5,gd p 6,gd p 7,gd p 8,gd p 9,gd p 10,gd p 11,gd p 12,gd p 13,gd p 14]))=ob (true&&(shardA p 14 4 townC4))
  rw [Bool.true_and]
  exact s_TownOkx0 p N hN hl
theorem s_TownOkx2 (p:List D) (N:Nat) (hN:((gd p 9).rows.length+(gd p 13).rows.length+(gd p 14).rows.length+1)≤N) (hl:∀ j,j ∈ [9,13,14]→(gd p j).rows.length≤9223372036854775807):s_TownOks2 N p=ob (shardA p 9 0 townC0&&(shardA p 13 2 townC2&&(shardA p 14 4 townC4))):=by
 rw [show s_TownOks2 N p=nd (iter (s_TownOkL0 N p) N [gd p 0,gd p 1,gd p 2,gd p 3,gd p 4,gd p 5,gd p 6,gd p 7,gd p 8,gd p 9,gd p 10,gd p 11,gd p 12,gd p 13,gd p 14,.i 0,.i 0,.i ((gd p 9).rows.length:Int),.i 0,gd p 0,gd p 1,gd p 2,gd p 3,gd p 4,gd p 5,gd p 6,gd p 7,gd p 8,gd p 9,gd p 10,gd p 11,gd p 12,gd p 13,gd p 14]).isSome (bif Out.code (iter (s_TownOkL0 N p) N [gd p 0,gd p 1,gd p 2,gd p 3,gd p 4,gd p 5,gd p 6,gd p 7,gd p 8,gd p 9,gd p 10,gd p 11,gd p 12,gd p 13,gd p 14,.i 0,.i 0,.i ((gd p 9).rows.length:Int),.i 0,gd p 0,gd p 1,gd p 2,gd p 3,gd p 4,gd p 5,gd p 6,gd p 7,gd p 8,gd p 9,gd p 10,gd p 11,gd p 12,gd p 13,gd p 14])==1 then some (1,Out.pay (iter (s_TownOkL0 N p) N [gd p 0,gd p 1,gd p 2,gd p 3,gd p 4,gd p 5,gd p 6,gd p 7,gd p 8,gd p 9,gd p 10,gd p 11,gd p 12,gd p 13,gd p 14,.i 0,.i 0,.i ((gd p 9).rows.length:Int),.i 0,gd p 0,gd p 1,gd p 2,gd p 3,gd p 4,gd p 5,gd p 6,gd p 7,gd p 8,gd p 9,gd p 10,gd p 11,gd p 12,gd p 13,gd p 14])) else nd (Out.code (iter (s_TownOkL0 N p) N [gd p 0,gd p 1,gd p 2,gd p 3,gd p 4,gd p 5,gd p 6,gd p 7,gd p 8,gd p 9,gd p 10,gd p 11,gd p 12,gd p 13,gd p 14,.i 0,.i 0,.i ((gd p 9).rows.length:Int),.i 0,gd p 0,gd p 1,gd p 2,gd p 3,gd p 4,gd p 5,gd p 6,gd p 7,gd p 8,gd p 9,gd p 10,gd p 11,gd p 12,gd p 13,gd p 14])==2) (s_TownOks1 N p (iter (s_TownOkL0 N p) N [gd p 0,gd p 1,gd p 2,gd p 3,gd p 4,gd p 5,gd p 6,gd p 7,gd p 8,gd p 9,gd p 10,gd p 11,gd p 12,gd p 13,gd p 14,.i 0,.i 0,.i ((gd p 9).rows.length:Int),.i 0,gd p 0,gd p 1,gd p 2,gd p 3,gd p 4,gd p 5,gd p 6,gd p 7,gd p 8,gd p 9,gd p 10,gd p 11,gd p 12,gd p 13,gd p 14]))) from by kernel_rfl]
 rw [s_TownOkI0 p N (by omega) (hl 9 (by simp))]
 cases shardA p 9 0 townC0
 ·rfl
 ·show s_TownOks1 N p (some (2,[gd p 0,gd p 1,gd p 2,gd p 3,gd p 4,gd p 5,gd p 6,gd p 7,gd p 8,gd p 9,gd p 10,gd p 11,gd p 12,gd p 13,gd p 14,.i 0,.i 0,.i ((gd p 9).rows.length:Int),.i ((gd p 9).rows.length:Int),gd p 0,gd p 1,gd p 2,gd p 3,gd p 4,gd p 5,gd p 6,gd p 7,gd p 8,gd p 9,gd p 10,gd p 11,gd p 12,gd p 13,gd p 14]))=ob (true&&(shardA p 13 2 townC2&&(shardA p 14 4 townC4)))
  rw [Bool.true_and]
  exact s_TownOkx1 p N hN hl
def s_TownOkE:Ent:=(14,e1 (ag rITown) fun p=>(⟨rb,[.b (townOk p)]⟩,true))
theorem s_TownOk_ok:EntOk Tryz.prog s_TownOkE:=e1_ok fun p h=>evFn_sound (N:=((gd p 9).rows.length+(gd p 13).rows.length+(gd p 14).rows.length+1)) (ks:=s_TownOkK) (key:=bo) s_TownOkT_ok (enters Tryz.func14) Tryz.func14 fun hw=>by
 rw [s_TownOk_ev]
 have hl:∀ j,j ∈ [9,13,14]→(gd p j).rows.length≤9223372036854775807:=by
  intro j hj
  simp only [List.mem_cons,List.not_mem_nil,or_false] at hj
  rcases hj with rfl | rfl | rfl <;> exact wt_at (hw ⟨ag rITown,p⟩ (by simp)) rfl
 refine congrArg (fun x=>some (bo,x)) ?_
 show s_TownOks7 ((gd p 9).rows.length+(gd p 13).rows.length+(gd p 14).rows.length+1) p=ob (townOk p)
 unfold s_TownOks7 s_TownOks6 s_TownOks5 s_TownOks4 s_TownOks3 townOk
 simp only [lt60,lt200]
 refine ob_step fun _=>?_
 refine ob_step fun _=>?_
 refine ob_step fun _=>?_
 refine ob_step fun _=>?_
 refine ob_step fun _=>?_
 refine ob_step fun _=>?_
 refine ob_step fun _=>?_
 refine ob_stepn ?_
 refine ob_stepn ?_
 refine ob_step fun _=>?_
 exact s_TownOkx2 p _ (Nat.le_refl _) hl
end Go.Proofs.YtchceahcaaibcaaGreat
namespace Go.Proofs
open Go.Shelf
def Tryz.lays189_ren:Go.Shelf.Ren:=⟨fun | 189=>174 | 125=>269 | 257=>268 | 128=>319 | 129=>320 | 294=>310 | 295=>311 | 296=>312 | 297=>313 | 298=>314 | 299=>315 | 216=>316 | 300=>317 | 301=>318 | 328=>337 | 329=>338 | 330=>339 | 331=>340 | 332=>341 | 215=>342 | 343=>347 | n=>n,fun | 28=>30 | 3=>3 | 46=>272 | 0=>0 | 51=>328 | 53=>330 | 4=>4 | 183=>322 | 182=>321 | 131=>219 | 5=>5 | 9=>9 | 218=>342 | 222=>346 | 228=>352 | 229=>353 | n=>n,fun | n=>n⟩
theorem Tryz.lays189:Go.Proofs.Lays.n189 Tryz.prog Tryz.lays189_ren:={ mixed:=by kernel_rfl,f125:=Tryz.func269.trans (congrArg some (by kernel_rfl)),f128:=Tryz.func319.trans (congrArg some (by kernel_rfl)),f129:=Tryz.func320.trans (congrArg some (by kernel_rfl)),f189:=Tryz.func174.trans (congrArg some (by kernel_rfl)),f215:=Tryz.func342.trans (congrArg some (by kernel_rfl)),f216:=Tryz.func316.trans (congrArg some (by kernel_rfl)),f257:=Tryz.func268.trans (congrArg some (by kernel_rfl)),f294:=Tryz.func310.trans (congrArg some (by kernel_rfl)),f295:=Tryz.func311.trans (congrArg some (by kernel_rfl)),f296:=Tryz.func312.trans (congrArg some (by kernel_rfl)),f297:=Tryz.func313.trans (congrArg some (by kernel_rfl)),f298:=Tryz.func314.trans (congrArg some (by kernel_rfl)),f299:=Tryz.func315.trans (congrArg some (by kernel_rfl)),f300:=Tryz.func317.trans (congrArg some (by kernel_rfl)),f301:=Tryz.func318.trans (congrArg some (by kernel_rfl)),f328:=Tryz.func337.trans (congrArg some (by kernel_rfl)),f329:=Tryz.func338.trans (congrArg some (by kernel_rfl)),f330:=Tryz.func339.trans (congrArg some (by kernel_rfl)),f331:=Tryz.func340.trans (congrArg some (by kernel_rfl)),f332:=Tryz.func341.trans (congrArg some (by kernel_rfl)),f343:=Tryz.func347.trans (congrArg some (by kernel_rfl)),t0:=Tryz.underlying0,a0:=Tryz.isAgg0,z0:=Tryz.sizeOf0,v0:=Tryz.zeroValue0,t3:=Tryz.underlying3,a3:=Tryz.isAgg3,z3:=Tryz.sizeOf3,v3:=Tryz.zeroValue3,t4:=Tryz.underlying4,a4:=Tryz.isAgg4,z4:=Tryz.sizeOf4,v4:=Tryz.zeroValue4,t5:=Tryz.underlying5,a5:=Tryz.isAgg5,z5:=Tryz.sizeOf5,v5:=Tryz.zeroValue5,t9:=Tryz.underlying9,a9:=Tryz.isAgg9,z9:=Tryz.sizeOf9,v9:=Tryz.zeroValue9,t28:=Tryz.underlying30,a28:=Tryz.isAgg30,z28:=Tryz.sizeOf30,v28:=Tryz.zeroValue30,t46:=Tryz.underlying272,a46:=Tryz.isAgg272,z46:=Tryz.sizeOf272,v46:=Tryz.zeroValue272,t51:=Tryz.underlying328,a51:=Tryz.isAgg328,z51:=Tryz.sizeOf328,v51:=Tryz.zeroValue328,t53:=Tryz.underlying330,a53:=Tryz.isAgg330,z53:=Tryz.sizeOf330,v53:=Tryz.zeroValue330,t131:=Tryz.underlying219,a131:=Tryz.isAgg219,z131:=Tryz.sizeOf219,v131:=Tryz.zeroValue219,t182:=Tryz.underlying321,a182:=Tryz.isAgg321,z182:=Tryz.sizeOf321,v182:=Tryz.zeroValue321,t183:=Tryz.underlying322,a183:=Tryz.isAgg322,z183:=Tryz.sizeOf322,v183:=Tryz.zeroValue322,t218:=Tryz.underlying342,a218:=Tryz.isAgg342,z218:=Tryz.sizeOf342,v218:=Tryz.zeroValue342,t222:=Tryz.underlying346,a222:=Tryz.isAgg346,z222:=Tryz.sizeOf346,v222:=Tryz.zeroValue346,t228:=Tryz.underlying352,a228:=Tryz.isAgg352,z228:=Tryz.sizeOf352,v228:=Tryz.zeroValue352,t229:=Tryz.underlying353,a229:=Tryz.isAgg353,z229:=Tryz.sizeOf353,v229:=Tryz.zeroValue353 }
def Tryz.laysNm220_ren:Go.Shelf.Ren:=⟨fun | 20=>175 | n=>n,fun | 22=>30 | 3=>3 | 4=>4 | 0=>0 | n=>n,fun | n=>n⟩
theorem Tryz.laysNm220:Go.Proofs.Lays2.n20 Tryz.prog Tryz.laysNm220_ren:={ mixed:=by kernel_rfl,f20:=Tryz.func175.trans (congrArg some (by kernel_rfl)),t0:=Tryz.underlying0,a0:=Tryz.isAgg0,z0:=Tryz.sizeOf0,v0:=Tryz.zeroValue0,t3:=Tryz.underlying3,a3:=Tryz.isAgg3,z3:=Tryz.sizeOf3,v3:=Tryz.zeroValue3,t4:=Tryz.underlying4,a4:=Tryz.isAgg4,z4:=Tryz.sizeOf4,v4:=Tryz.zeroValue4,t22:=Tryz.underlying30,a22:=Tryz.isAgg30,z22:=Tryz.sizeOf30,v22:=Tryz.zeroValue30,i3:=by kernel_rfl }
def Tryz.laysNm215_ren:Go.Shelf.Ren:=⟨fun | 15=>176 | n=>n,fun | 22=>30 | 3=>3 | 4=>4 | n=>n,fun | n=>n⟩
theorem Tryz.laysNm215:Go.Proofs.Lays2.n15 Tryz.prog Tryz.laysNm215_ren:={ mixed:=by kernel_rfl,f15:=Tryz.func176.trans (congrArg some (by kernel_rfl)),t3:=Tryz.underlying3,a3:=Tryz.isAgg3,z3:=Tryz.sizeOf3,v3:=Tryz.zeroValue3,t4:=Tryz.underlying4,a4:=Tryz.isAgg4,z4:=Tryz.sizeOf4,v4:=Tryz.zeroValue4,t22:=Tryz.underlying30,a22:=Tryz.isAgg30,z22:=Tryz.sizeOf30,v22:=Tryz.zeroValue30,i3:=by kernel_rfl }
def Tryz.growI_ren:Go.Shelf.Ren:=⟨fun | 4=>266 | n=>n,fun | 22=>30 | 25=>3 | 3=>3 | 4=>4 | 9=>9 | 20=>20 | 0=>0 | n=>n,fun | n=>n⟩
theorem Tryz.growI:Go.Proofs.Lays8.n4 Tryz.prog Tryz.growI_ren:={ mixed:=by kernel_rfl,f4:=⟨Tryz.f266.name,by decide,Tryz.func266.trans (congrArg some (by kernel_rfl))⟩,t0:=Tryz.underlying0,a0:=Tryz.isAgg0,z0:=Tryz.sizeOf0,v0:=Tryz.zeroValue0,t3:=Tryz.underlying3,a3:=Tryz.isAgg3,z3:=Tryz.sizeOf3,v3:=Tryz.zeroValue3,t4:=Tryz.underlying4,a4:=Tryz.isAgg4,z4:=Tryz.sizeOf4,v4:=Tryz.zeroValue4,t9:=Tryz.underlying9,a9:=Tryz.isAgg9,z9:=Tryz.sizeOf9,v9:=Tryz.zeroValue9,t20:=Tryz.underlying20,a20:=Tryz.isAgg20,z20:=Tryz.sizeOf20,v20:=Tryz.zeroValue20,t22:=Tryz.underlying30,a22:=Tryz.isAgg30,z22:=Tryz.sizeOf30,v22:=Tryz.zeroValue30 }
end Go.Proofs
namespace Go.Proofs.YtchceahcaaibcaaGreat
open Go.RowKit (Below)
def numsOf (z:D):List Int:=z.rows.map fun r=>(gd r 0).int
def numsD (xs:List Int):D:=.l (xs.map fun n => [.i n])
def sortL (xs:List Int):List Int:=xs.mergeSort fun x y=>decide (x≤y)
def sortD (z:D):D:=numsD (sortL (numsOf z))
def compD (z:D):D:=numsD (Lib.compact (numsOf z))
theorem numsOf_len (z:D):(numsOf z).length=z.rows.length:=by simp [numsOf]
theorem numsD_rows (xs:List Int):(numsD xs).rows=xs.map fun n => [.i n]:=rfl
theorem numsD_len (xs:List Int):(numsD xs).rows.length=xs.length:=by simp [numsD,D.rows]
theorem numsD_at (xs:List Int) (i:Nat) (h:i<xs.length):(gd ((numsD xs).rows.getD i []) 0).int=xs[i]:=by
 rw [numsD_rows,List.getD_eq_getElem?_getD,List.getElem?_map,List.getElem?_eq_getElem h]
 rfl
theorem numsOf_at (z:D) (i:Nat) (h:i<z.rows.length):(numsOf z)[i]?=some (gd (z.rows.getD i []) 0).int:=by
 simp [numsOf,List.getD_eq_getElem?_getD,List.getElem?_eq_getElem h]
theorem numsOf_numsD (xs:List Int):numsOf (numsD xs)=xs:=by
 unfold numsOf
 rw [numsD_rows,List.map_map]
 have:((fun r=>(gd r 0).int) ∘ fun n:Int => [D.i n])=id:=by funext n; rfl
 rw [this,List.map_id]
theorem sortL_len (xs:List Int):(sortL xs).length=xs.length:=List.length_mergeSort xs
theorem comp_le (xs:List Int):(Lib.compact xs).length≤xs.length:=by
 unfold Lib.compact Lib.compactUpTo
 rw [List.length_map]
 exact Nat.le_trans (List.length_filter_le _ _) (by simp)
theorem writ_put {w:World} {b n:Nat} {arr:Array Value} {e:TypeId} {d:Array Int} {os:Array Obj} {rows:List (List D)} (hh:w.heap[b]?=some (.cells arr e (0,0))) (hd:d.size≤arr.size)
  (hr:∀ i,i<rows.length→i<d.size∧d[i]! = (gd (rows.getD i []) 0).int):Writ b e arr rows w (Go.Sort.grow (Go.Sort.putRow (Value.int .i64) (Go.Sort.ahead w n) b 0 d) os):=by
 have hb:=lt_of_heap hh
 have h1:(Go.Sort.grow (Go.Sort.putRow (Value.int .i64) (Go.Sort.ahead w n) b 0 d) os).heap=w.heap.modify b (Go.Sort.onCells (Go.Sort.putCells (Value.int .i64) 0 d))++os:=rfl
 have h2:∀ k,k<w.heap.size→(Go.Sort.grow (Go.Sort.putRow (Value.int .i64) (Go.Sort.ahead w n) b 0 d) os).heap[k]?=if b=k then (w.heap[k]?).map (Go.Sort.onCells (Go.Sort.putCells (Value.int .i64) 0 d)) else w.heap[k]?:=fun k hk=>by
  rw [h1,Array.getElem?_append_left (by simpa using hk),Array.getElem?_modify]
 refine ⟨⟨rfl,rfl,rfl,by rw [h1]; simp,fun k hk=>by omega⟩,fun k hk hne=>by rw [h2 k hk,if_neg (Ne.symm hne)],Go.Sort.putCells (Value.int .i64) 0 d arr,?_,?_,?_⟩
 ·rw [h2 b hb,if_pos rfl,hh]; rfl
 ·simp [Go.Sort.putCells]
 ·intro i hi
  obtain ⟨q1,q2⟩:=hr i hi
  have hlt:i<arr.size:=by omega
  unfold Go.Sort.putCells
  rw [Array.getElem?_mapIdx,Array.getElem?_eq_getElem hlt]
  rw [getElem!_pos d i q1] at q2
  simp only [← q2]
  simp [q1]
theorem holds_nums {w:World} {b:Nat} {arr:Array Value} {e:TypeId} {x:D} (hh:w.heap[b]?=some (.cells arr e (0,0))) (hle:x.rows.length≤arr.size) (hc:∀ i,i<x.rows.length→arr[i]?=some (.int .i64 (gd (x.rows.getD i []) 0).int)) :
  Go.Sort.Holds (Value.int .i64) w b 0 (numsOf x).toArray:=by
 intro j hj
 have hj:j<x.rows.length:=by simpa [numsOf] using hj
 refine ⟨?_,?_⟩
 ·have e1:(numsOf x).toArray[j]! = (gd (x.rows.getD j []) 0).int:=by
   have:=numsOf_at x j hj
   simp [getElem!_def,this]
  rw [e1]
  simp only [World.cell?,hh,Nat.zero_add]
  exact hc j hj
 ·simp [World.frozen?,hh]
def i_sortE:Ent:=(174,e1 (sd (.sl 3)) fun p=>(⟨.tup [.c .any],[sortD (gd p 0)]⟩,leI ((gd p 0).rows.length:Int) 1000000000))
theorem i_sort_ok:EntOk Tryz.prog i_sortE:=e1_ok fun p h=>by
 have h:leI ((gd p 0).rows.length:Int) 1000000000=true:=h
 simp only [leI,decide_eq_true_eq] at h
 refine SoundFn.ofW rfl ⟨enters Tryz.func174 (by kernel_rfl) (by kernel_rfl),fun e x he hrow=>?_⟩
 injection he with he _
 injection he with he hp
 injection he with he
 injection he with he
 injection he with he
 injection he with he
 subst he
 subst hp
 have hx:gd [x] 0=x:=rfl
 rw [hx] at h
 refine ⟨fun h0=>⟨?_,fun A w=>?_⟩,fun w b cap arr hh hsz hle hc hnum=>⟨?_,fun _=>?_,?_⟩⟩
 ·show (sortD x).rows = []
  have:numsOf x = []:=by unfold numsOf; rw [h0]; rfl
  exact List.eq_nil_of_length_eq_zero (by rw [sortD,numsD_len,sortL_len,this]; rfl)
 ·refine (Any.slices_Sort_int_none Tryz.lays189 A 0 w).mono ?_
  rintro ex w' ⟨rfl,rfl⟩
  exact ⟨rfl,Below.refl _ _⟩
 ·show (sortD x).rows.length≤_
  rw [sortD,numsD_len,sortL_len,numsOf_len]
  exact Nat.le_refl _
 ·show (sortD x).rows.length=_
  rw [sortD,numsD_len,sortL_len,numsOf_len]
 ·have hl:=numsOf_len x
  have hs:=Any.slices_Sort_int Tryz.lays189 b 0 cap (numsOf x) w (holds_nums hh (by omega) hnum) (lt_of_heap hh) (by omega)
  rw [hl] at hs
  refine hs.mono ?_
  rintro ex w' ⟨rfl,n,os,rfl⟩
  refine ⟨rfl,writ_put hh (by simp [hl]; omega) fun i hi=>?_⟩
  have hi:i<(sortL (numsOf x)).length:=by
   have hi:i<(sortD x).rows.length:=hi
   rwa [sortD,numsD_len] at hi
  refine ⟨by simpa [sortL] using hi,?_⟩
  show _=(gd ((sortD x).rows.getD i []) 0).int
  rw [sortD,numsD_at _ _ hi]
  have hi':i<((numsOf x).mergeSort fun x y=>decide (x≤y)).length:=hi
  simp [getElem!_def,List.getElem?_eq_getElem hi',sortL]
def i_compE:Ent:=(175,e1 (sd (.sl 3)) fun p=>(⟨.tup [.agg []],[compD (gd p 0)]⟩,leI ((gd p 0).rows.length:Int) 1000000000))
theorem i_comp_ok:EntOk Tryz.prog i_compE:=e1_ok fun p h=>by
 have h:leI ((gd p 0).rows.length:Int) 1000000000=true:=h
 simp only [leI,decide_eq_true_eq] at h
 refine SoundFn.ofW rfl ⟨enters Tryz.func175 (by kernel_rfl) (by kernel_rfl),fun e x he hrow=>?_⟩
 injection he with he _
 injection he with he hp
 injection he with he
 injection he with he
 injection he with he
 injection he with he
 subst he
 subst hp
 have hx:gd [x] 0=x:=rfl
 rw [hx] at h
 have hcl:∀ x:D,(compD x).rows.length=(Lib.compact (numsOf x)).length:=fun x=>numsD_len _
 refine ⟨fun h0=>⟨?_,fun A w=>?_⟩,fun w b cap arr hh hsz hle hc hnum=>⟨?_,?_,?_⟩⟩
 ·show (compD x).rows = []
  have:numsOf x = []:=by unfold numsOf; rw [h0]; rfl
  unfold compD
  rw [this]; rfl
 ·refine (Any.slices_Compact_int_empty Tryz.laysNm220 A 0 w).mono ?_
  rintro ex w' ⟨rfl,rfl⟩
  exact ⟨rfl,Below.refl _ _⟩
 ·show (compD x).rows.length≤_
  rw [hcl,← numsOf_len]
  exact comp_le _
 ·rintro ⟨c,hc⟩
  cases hc
 ·have hl:=numsOf_len x
  have hcle:=comp_le (numsOf x)
  have hs:=Any.slices_Compact_int Tryz.laysNm220 b 0 cap (numsOf x) w (holds_nums hh (by omega) hnum) (by omega) (by omega)
  rw [hl] at hs
  refine hs.mono ?_
  rintro ex w' ⟨rfl,n,rfl⟩
  refine ⟨?_,?_⟩
  ·show _=Ending.returned (.slice (some ⟨b,0,none⟩) (compD x).rows.length cap)
   rw [hcl]
  ·have:=writ_put (os:= #[]) (n:=n) (rows:=(compD x).rows) (d:=(Lib.compact (numsOf x)++List.replicate (x.rows.length - (Lib.compact (numsOf x)).length) 0).toArray) hh (by simp; omega) fun i hi=>?_
   ·rw [Go.Sort.grow_empty] at this
    exact this
   ·rw [hcl] at hi
    refine ⟨by simp; omega,?_⟩
    rw [compD,numsD_at _ _ hi]
    simp [getElem!_def,List.getElem?_append_left hi,List.getElem?_eq_getElem hi]
theorem res_own {P:Program} {prot:Nat→Nat} {w w':World} {e:TypeId} {x:D} {v:Value} (hrow:rowOf P e=some [.int .i64]) (hfr:∀ b,w.heap.size≤b→prot b=0) (hb:Below w.heap.size w w') (ho:w'.ownsRow w.heap.size e 1 v x.rows.length ((numsOf x).map (Value.int .i64))) :
  ∃ g',Res P prot w w' ⟨.one (.c (.own (0,0) true e)),[x]⟩ v g':=by
 obtain ⟨hl,⟨rfl,h0⟩ | ⟨blk,cap,cur,rfl,hblk,hh,hcap,hmax,hsz,htk⟩⟩:=ho
 ·exact ⟨g0 0 prot,hb,⟨[.int .i64],hrow,.inl ⟨List.eq_nil_of_length_eq_zero h0,rfl,none,rfl⟩⟩,fun _ _=>rfl,fun b hb'=>⟨hfr b (Nat.le_trans hb.size hb'),rfl⟩⟩
 ·refine ⟨⟨prot,fun b=>if b=blk then some (.inr (0,0)) else none,fun _=>0,fun _=>blk,fun _=>x.rows.length,fun _=>1,fun _=>e,fun _ => [],fun _=>0,fun _=>False⟩,hb,⟨[.int .i64],hrow,.inr ⟨cap,cur,e,rfl,hcap,⟨by unfold maxLen at hmax; omega,rfl,rfl⟩,hblk,if_pos rfl,hh,by simpa using hsz,rfl,rfl,?_,?_⟩⟩,fun _ _=>rfl,fun b hb'=>⟨hfr b (Nat.le_trans hb.size hb'),?_⟩⟩
  ·show prot blk=0
   exact hfr blk hblk
  ·intro i j s hi hs
   have hi:i<x.rows.length:=hi
   match j,hs with
   | 0,hs =>
    injection hs with hs
    subst hs
    refine ⟨.int .i64 (gd (x.rows.getD i []) 0).int,?_,.of_vd (.int .i64 _) (.inr rfl)⟩
    have e1:(cur.toList.take (x.rows.length*1))[i]?=some (Value.int .i64 (gd (x.rows.getD i []) 0).int):=by
     rw [htk,List.getElem?_map,numsOf_at x i hi]; rfl
    rw [List.getElem?_take,if_pos (by omega)] at e1
    simpa using e1
  ·have:=lt_of_heap hh
   exact if_neg (by omega)
def i_clonE:Ent:=(176,e1 (sd (.sl 3)) fun p=>(⟨.one (.c (.own (0,0) true 3)),[.l (gd p 0).rows]⟩,leI ((gd p 0).rows.length:Int) 1000000000))
theorem i_clon_ok:EntOk Tryz.prog i_clonE:=e1_ok fun p h=>by
 have h:leI ((gd p 0).rows.length:Int) 1000000000=true:=h
 simp only [leI,decide_eq_true_eq] at h
 have hrow:rowOf Tryz.prog 3=some [.int .i64]:=by kernel_rfl
 refine SoundFn.of rfl ⟨enters Tryz.func176 (by kernel_rfl) (by kernel_rfl),fun w prot vs hargs hfr=>?_⟩
 obtain ⟨u,hu,hv⟩:=hargs.2 0 _ rfl
 have hvs:vs = #[u]:=by
  have hs:vs.size=1:=hargs.1
  refine Array.ext (by simpa using hs) fun i h1 h2=>?_
  have:i=0:=by omega
  subst this
  rw [Array.getElem?_eq_getElem h1] at hu
  injection hu
 subst hvs
 have hv:VD Tryz.prog w prot (.sl 3) (gd p 0) u:=hv
 generalize gd p 0=x at *
 cases hv with
 | sl e d A c row uu hr h1 h2 h3 h4 =>
  rw [hrow] at hr
  injection hr with hr
  subst hr
  cases A with
  | none =>
   have h0:x.rows.length=0:=by
    rcases Nat.eq_zero_or_pos x.rows.length with h' | h'
    ·exact h'
    ·obtain ⟨b,o,hA,_⟩:=h3 0 0 h' (by decide)
     cases hA
   have hx0:x.rows = []:=List.eq_nil_of_length_eq_zero h0
   refine (Any.slices_Clone_int_nil Tryz.laysNm215 x.rows.length c w).mono ?_
   rintro ex w' ⟨rfl,rfl⟩
   obtain ⟨g',hg⟩:=res_own (x:=x) (prot:=prot) (w:=w') (w':=w') hrow hfr (Below.refl _ _) (v:=.slice none 0 0) ⟨by simp [numsOf],.inl ⟨rfl,h0⟩⟩
   exact ⟨_,g',rfl,hg.below,hg.val,hg.prot,hg.fresh⟩
  | some ad =>
   rcases Nat.eq_zero_or_pos x.rows.length with h0 | hpos
   ·have hx0:x.rows = []:=List.eq_nil_of_length_eq_zero h0
    rw [h0]
    refine (Any.slices_Clone_int_zero Tryz.laysNm215 ad c w).mono ?_
    rintro ex w' ⟨v',rfl,hown,_,hbel⟩
    obtain ⟨g',hg⟩:=res_own (x:=x) (prot:=prot) hrow hfr hbel (v:=v') (by
     have e1:numsOf x = []:=by unfold numsOf; rw [hx0]; rfl
     rw [h0,e1]; exact hown)
    exact ⟨_,g',rfl,hg.below,hg.val,hg.prot,hg.fresh⟩
   ·obtain ⟨b,o,hA,_⟩:=h3 0 0 hpos (by decide)
    injection hA with hA
    subst hA
    have hl:=numsOf_len x
    refine (Any.slices_Clone_int Tryz.laysNm215 b o x.rows.length c (numsOf x) w (by omega) (by omega) (fun j hj=>?_)).mono ?_
    ·have hj:j<x.rows.length:=by rw [← hl]; exact hj
     obtain ⟨b',o',hA,hc,_⟩:=h3 j 0 hj (by decide)
     simp only [Option.some.injEq,Addr.mk.injEq] at hA
     obtain ⟨rfl,rfl,_⟩:=hA
     have hvv:=h4 j 0 (.int .i64) hj rfl
     generalize uu j 0=uv at *
     cases hvv
     have e1:(numsOf x).getD j 0=(gd (x.rows.getD j []) 0).int:=by
      rw [List.getD_eq_getElem?_getD,numsOf_at x j hj]; rfl
     rw [e1]
     simpa using hc
    ·rintro ex w' ⟨v',rfl,hown,_,hbel⟩
     obtain ⟨g',hg⟩:=res_own (x:=x) (prot:=prot) hrow hfr hbel (v:=v') (by
      rw [List.take_of_length_le (by omega)] at hown; exact hown)
     exact ⟨_,g',rfl,hg.below,hg.val,hg.prot,hg.fresh⟩
def i_growE:Ent:=(266,e2 (.one (.c (.own (0,0) true 3))) ri fun p q=>(⟨.one (.c (.own (0,0) true 3)),[.l []]⟩,leI 0 (gd q 0).int&&leI (gd q 0).int 1000000000))
theorem i_grow_ok:EntOk Tryz.prog i_growE:=e2_ok fun p q h=>by
 have h:(leI 0 (gd q 0).int&&leI (gd q 0).int 1000000000)=true:=h
 simp only [Bool.and_eq_true,leI,decide_eq_true_eq] at h
 have hrow:rowOf Tryz.prog 3=some [.int .i64]:=by kernel_rfl
 refine SoundFn.of rfl ⟨enters Tryz.func266 (by kernel_rfl) (by kernel_rfl),fun w prot vs hargs hfr=>?_⟩
 obtain ⟨u,hu,hv⟩:=hargs.2 0 _ rfl
 obtain ⟨u1,hu1,hv1⟩:=hargs.2 1 _ rfl
 have hvs:vs = #[u,u1]:=by
  have hs:vs.size=2:=hargs.1
  refine Array.ext (by simpa using hs) fun i h1 h2=>?_
  have:i=0∨i=1:=by omega
  rcases this with rfl | rfl
  ·rw [Array.getElem?_eq_getElem h1] at hu
   injection hu
  ·rw [Array.getElem?_eq_getElem h1] at hu1
   injection hu1
 subst hvs
 have hv1:VD Tryz.prog w prot (.int .i64) (gd q 0) u1:=hv1
 obtain ⟨row,_,hown⟩:=hv
 generalize gd q 0=y at *
 cases hv1
 rcases hown with ⟨_,_,A,rfl⟩ | ⟨_,_,_,_,_,_,_,ho,_⟩
 ·obtain ⟨n,hn⟩:∃ n:Nat,y.int=n:=⟨y.int.toNat,by omega⟩
  rw [hn]
  rcases Nat.eq_zero_or_pos n with rfl | hpos
  ·refine (Any8.slices_Grow_room Tryz.growI A 0 0 0 w (by omega) (by omega) (by omega) (by omega)).mono ?_
   rintro ex w' ⟨rfl,rfl⟩
   exact ⟨_,g0 0 prot,rfl,Below.refl _ _,⟨[.int .i64],hrow,.inl ⟨rfl,rfl,A,rfl⟩⟩,fun _ _=>rfl,fun b hb'=>⟨hfr b hb',rfl⟩⟩
  ·obtain ⟨i0,hi0,hz0,hs0,hby⟩:=info_parts (P:=Tryz.prog) (e:=3) (z:=.int .i64 0) (size:=1) (bytes:=8) (by kernel_rfl)
   obtain ⟨z,hz⟩:∃ z,z=Value.int .i64 0:=⟨_,rfl⟩
   have hzc:z.cells.size=1:=by rw [hz]; rfl
   rw [← hz] at hz0
   refine (Any8.slices_Grow_grow Tryz.growI i0 z hi0 hz0 (by omega) A 0 0 n [] w (by omega) (by omega) (by rw [hby]; omega) (by omega) (by simp) (fun _=>rfl) (fun a _ j v hj=>by simp at hj)).mono ?_
   rintro ex w' ⟨rfl,rfl⟩
   have hge:=grownCap_ge w (0+n) 0 3
   have hcm:=grownCap_le_maxLen w (0+n) 0 3 (by unfold maxLen; omega)
   obtain ⟨g',hg⟩:=res_own (x:=.l []) (prot:=prot) (w:=w) (w':=w.drew.alloc (.cells ((#[]:Array Value)++Builtin.zeroCells z.cells (0+n - 0)++Builtin.zeroCells z.cells (grownCap w (0+n) 0 3 - (0+n))) 3)) hrow hfr
    ⟨rfl,rfl,rfl,by simp,fun k hk=>Below.heap_alloc w.drew _ k hk⟩ (v:=.slice (some ⟨w.heap.size,0,none⟩) 0 (grownCap w (0+n) 0 3)) ⟨rfl,.inr ⟨w.heap.size,_,_,rfl,Nat.le_refl _,(by letI:Low:=noLow; exact heap_new w.drew _),Nat.zero_le _,hcm,(by simp only [Nat.zero_add] at hge; simp [size_zeroCells,hzc]; omega),rfl⟩⟩
   exact ⟨_,g',rfl,hg⟩
 ·cases ho
theorem keeps_iff (ys:List Int) (hs:ys.Pairwise (· ≤ ·)):(∀ j,j<ys.length→Lib.keeps ys.toArray j=true)↔ys.Nodup:=by
 have hle:∀ i j (hi:i<ys.length) (hj:j<ys.length),i≤j→ys[i]≤ys[j]:=by
  intro i j hi hj h
  rcases Nat.lt_or_ge i j with h | h
  ·exact List.pairwise_iff_getElem.1 hs i j hi hj h
  ·have:i=j:=by omega
   subst this; exact Int.le_refl _
 have hk:∀ j (hj:j<ys.length),j≠0→(Lib.keeps ys.toArray j=true↔ys[j]≠ys[j - 1]):=by
  intro j hj h0
  have hj1:j - 1<ys.length:=by omega
  simp [Lib.keeps,h0,getElem!_def,List.getElem?_eq_getElem hj,List.getElem?_eq_getElem hj1]
 constructor
 ·intro h
  refine List.pairwise_iff_getElem.2 fun i j hi hj hij=>?_
  have h1:=(hk j hj (by omega)).1 (h j hj)
  have h2:=hle i (j - 1) hi (by omega) (by omega)
  have h3:=hle (j - 1) j (by omega) hj (by omega)
  omega
 ·intro h j hj
  by_cases h0:j=0
  ·subst h0; simp [Lib.keeps]
  ·refine (hk j hj h0).2 ?_
   have:=List.pairwise_iff_getElem.1 h (j - 1) j (by omega) hj (by omega)
   exact fun e=>this e.symm
theorem comp_len (ys:List Int) (hs:ys.Pairwise (· ≤ ·)):((Lib.compact ys).length=ys.length)↔ys.Nodup:=by
 rw [← keeps_iff ys hs]
 unfold Lib.compact Lib.compactUpTo
 rw [List.length_map]
 have h:=List.length_filter_eq_length_iff (l:=List.range ys.length) (p:=Lib.keeps ys.toArray)
 rw [List.length_range] at h
 rw [h]
 simp
theorem sortL_pair (xs:List Int):(sortL xs).Pairwise (· ≤ ·):=by
 have h:=List.pairwise_mergeSort (le:=fun x y:Int=>decide (x≤y)) (by intro a b c h1 h2; simp only [decide_eq_true_eq] at *; omega) (by intro a b; simp only [Bool.or_eq_true,decide_eq_true_eq]; omega) xs
 exact h.imp fun h=>by simpa using h
theorem comp_sort (z:D):(compD (sortD z)).rows.length=(sortD z).rows.length↔(numsOf z).Nodup:=by
 unfold compD
 rw [numsD_len]
 unfold sortD
 rw [numsOf_numsD,numsD_len,comp_len _ (sortL_pair _)]
 exact (List.mergeSort_perm (numsOf z) _).nodup_iff
end Go.Proofs.YtchceahcaaibcaaGreat
namespace Go.Proofs.YtchceahcaaibcaaGreat
set_option maxRecDepth 4096
set_option maxHeartbeats 1000000
abbrev i_ConcatT:FuncId→List T→Option (T × Bool):=find [i_growE]
theorem i_ConcatT_ok:CallOk Tryz.prog i_ConcatT:=find_ok (fC ⟨i_grow_ok,fN⟩)
abbrev i_ConcatK:List Nat:= [0,2,3,5,6,8,9,10,11,12,20,25,26,27,28]
noncomputable def i_ConcatL0 (N:Nat) (p:List D):List D→Out:=loopOf Tryz.prog i_ConcatT N i_ConcatK Tryz.f170 (.one (.c (.own (0,0) true 3))) [⟨sd (.sl 30),p⟩] 0
noncomputable def i_ConcatL2 (N:Nat) (p:List D):List D→Out:=loopOf Tryz.prog i_ConcatT N i_ConcatK Tryz.f170 (.one (.c (.own (0,0) true 3))) [⟨sd (.sl 30),p⟩] 2
theorem i_ConcatR0 (N:Nat) (p:List D) (x0 x1 x2 x3 x4 x5:D):(i_ConcatL0 N p) [x0,x1,x2,x3,x4,x5] =
 bif ltI x5.int x4.int then nd (inRange x5.int x3.rows.length) (bif ltI (w64 (x2.int+((gd (x3.rows.getD x5.int.toNat []) 0).rows.length:Int))) 0 then nd false (nd false (nx [x0,x1,.i (w64 (x2.int+((gd (x3.rows.getD x5.int.toNat []) 0).rows.length:Int))),x3,x4,.i (w64 (x5.int+1))]))
 else nx [x0,x1,.i (w64 (x2.int+((gd (x3.rows.getD x5.int.toNat []) 0).rows.length:Int))),x3,x4,.i (w64 (x5.int+1))])
 else ex 0 [x0,x1,x2,x3,x4,x5]:=by kernel_rfl
theorem i_ConcatR2 (N:Nat) (p:List D) (x0 x1 x2 x3 x4 x5 x6 x7 x8 x9:D):(i_ConcatL2 N p) [x0,x1,x2,x3,x4,x5,x6,x7,x8,x9] =
 bif ltI x9.int x8.int then nd (inRange x9.int x7.rows.length) (nd (lenOk (x6.rows++(gd (x7.rows.getD x9.int.toNat []) 0).rows)&&true) (nx [x0,x1,x2,x3,x4,x5,.l (x6.rows++(gd (x7.rows.getD x9.int.toNat []) 0).rows),x7,x8,.i (w64 (x9.int+1))]))
 else ex 2 [x0,x1,x2,x3,x4,x5,x6,x7,x8,x9]:=by kernel_rfl
theorem i_Concat_ev (N:Nat) (p:List D):evFn Tryz.prog i_ConcatT N i_ConcatK Tryz.f170 (.one (.c (.own (0,0) true 3))) [⟨sd (.sl 30),p⟩]=some (bo,
 (let o0:=iter (i_ConcatL0 N p) N [gd p 0,.l [],.i 0,gd p 0,.i ((gd p 0).rows.length:Int),.i 0]
  nd o0.isSome (nd (o0.code==2) (nd (leI 0 (gd o0.pay 2).int&&leI (gd o0.pay 2).int 1000000000) ((let o2:=iter (i_ConcatL2 N p) N [gd o0.pay 0,gd o0.pay 1,gd o0.pay 2,gd o0.pay 3,gd o0.pay 4,gd o0.pay 5,.l [],gd o0.pay 0,.i ((gd o0.pay 0).rows.length:Int),.i 0]
  nd o2.isSome (nd (o2.code==4) (some (1,[gd o2.pay 6]))))))))):=by kernel_rfl
def concD (x:D):D:=.l ((gd (x.rows.getD 0 []) 0).rows++(gd (x.rows.getD 1 []) 0).rows)
def concOk (x:D):Bool:=x.rows.length==2&&(leI ((gd (x.rows.getD 0 []) 0).rows.length:Int) 100000000&&leI ((gd (x.rows.getD 1 []) 0).rows.length:Int) 100000000)
theorem iter_nx {L:List D→Out} {n:Nat} {p q:List D} (h:L p=nx q):iter L (n+1) p=iter L n q:=by
 show (match L p with | some (0,p')=>iter L n p' | o=>o)=_
 rw [h]; rfl
theorem iter_ex {L:List D→Out} {n c:Nat} {p q:List D} (h:L p=some (c+1,q)):iter L (n+1) p=some (c+1,q):=by
 show (match L p with | some (0,p')=>iter L n p' | o=>o)=_
 rw [h]; rfl
def i_ConcatE:Ent:=(170,e1 (sd (.sl 30)) fun p=>(⟨.one (.c (.own (0,0) true 3)),[concD (gd p 0)]⟩,concOk (gd p 0)))
theorem i_Concat_ok:EntOk Tryz.prog i_ConcatE:=e1_ok fun p h=>evFn_sound (N:=3) (ks:=i_ConcatK) (key:=bo) i_ConcatT_ok (enters Tryz.func170) Tryz.func170 fun hw=>by
 rw [i_Concat_ev]
 have h:concOk (gd p 0)=true:=h
 unfold concOk at h
 simp only [Bool.and_eq_true,leI,decide_eq_true_eq,beq_iff_eq] at h
 obtain ⟨hl,h0,h1⟩:=h
 have hlen:∀ k,k<(gd p 0).rows.length→((gd ((gd p 0).rows.getD k []) 0).rows.length:Int)≤100000000:=fun k hk=>by
  have:k=0∨k=1:=by omega
  rcases this with rfl | rfl <;> assumption
 have s0:∀ (k:Nat) (s:Int),k<(gd p 0).rows.length→0≤s→s≤100000000→i_ConcatL0 3 p [gd p 0,.l [],.i s,gd p 0,.i ((gd p 0).rows.length:Int),.i (k:Int)]=nx [gd p 0,.l [],.i (s+((gd ((gd p 0).rows.getD k []) 0).rows.length:Int)),gd p 0,.i ((gd p 0).rows.length:Int),.i ((k+1:Nat):Int)]:=fun k s hk hs1 hs2=>by
  have:=hlen k hk
  rw [i_ConcatR0]
  simp only [int_i,c_lt hk,nd_ix hk,Int.toNat_natCast]
  rw [w64_id (by omega) (by omega),ltI_f (by omega),cond_false,w64_succ hk (by omega)]
 have s2:∀ (k:Nat) (x2 x3 x4 x5:D) (rs:List (List D)),k<(gd p 0).rows.length→rs.length≤100000000→i_ConcatL2 3 p [gd p 0,.l [],x2,x3,x4,x5,.l rs,gd p 0,.i ((gd p 0).rows.length:Int),.i (k:Int)]=nx [gd p 0,.l [],x2,x3,x4,x5,.l (rs++(gd ((gd p 0).rows.getD k []) 0).rows),gd p 0,.i ((gd p 0).rows.length:Int),.i ((k+1:Nat):Int)]:=fun k x2 x3 x4 x5 rs hk hrs=>by
  have:=hlen k hk
  rw [i_ConcatR2]
  simp only [int_i,rows_l,c_lt hk,nd_ix hk,Int.toNat_natCast]
  rw [lenOk_t (by rw [List.length_append]; omega),w64_succ hk (by omega)]
  rfl
 have e0:iter (i_ConcatL0 3 p) 3 [gd p 0,.l [],.i 0,gd p 0,.i ((gd p 0).rows.length:Int),.i 0]=some (2,[gd p 0,.l [],.i (0+((gd ((gd p 0).rows.getD 0 []) 0).rows.length:Int)+((gd ((gd p 0).rows.getD 1 []) 0).rows.length:Int)),gd p 0,.i ((gd p 0).rows.length:Int),.i ((gd p 0).rows.length:Int)]):=by
  refine Eq.trans (iter_nx (n:=2) (s0 0 0 (by omega) (by omega) (by omega))) (Eq.trans (iter_nx (n:=1) (s0 1 _ (by omega) (by omega) (by omega))) ?_)
  have e:((1+1:Nat):Int)=((gd p 0).rows.length:Int):=by omega
  rw [e]
  refine iter_ex (c:=1) ?_
  rw [i_ConcatR0]
  simp only [int_i,c_nlt]
 have e2:∀ (x2 x3 x4 x5:D),iter (i_ConcatL2 3 p) 3 [gd p 0,.l [],x2,x3,x4,x5,.l [],gd p 0,.i ((gd p 0).rows.length:Int),.i 0]=some (4,[gd p 0,.l [],x2,x3,x4,x5,.l ([]++(gd ((gd p 0).rows.getD 0 []) 0).rows++(gd ((gd p 0).rows.getD 1 []) 0).rows),gd p 0,.i ((gd p 0).rows.length:Int),.i ((gd p 0).rows.length:Int)]):=fun x2 x3 x4 x5=>by
  refine Eq.trans (iter_nx (n:=2) (s2 0 x2 x3 x4 x5 [] (by omega) (by simp))) (Eq.trans (iter_nx (n:=1) (s2 1 x2 x3 x4 x5 _ (by omega) (by have:=hlen 0 (by omega); rw [List.nil_append]; omega))) ?_)
  have e:((1+1:Nat):Int)=((gd p 0).rows.length:Int):=by omega
  rw [e]
  refine iter_ex (c:=3) ?_
  rw [i_ConcatR2]
  simp only [int_i,c_nlt]
 refine congrArg (fun x=>some (bo,x)) ?_
 simp only [e0,nd,cond_true,cond_false,Option.isSome_some,Out.code,Out.pay,Option.getD_some,gd_cons_zero,gd_cons_succ,Nat.reduceBEq,Nat.reduceAdd,int_i,bool_b,str_s,rows_l,Bool.not_true,Bool.not_false,beq_self_eq_true]
 rw [leI_t (by omega),leI_t (by omega)]
 simp only [e2,nd,cond_true,cond_false,Option.isSome_some,Out.code,Out.pay,Option.getD_some,gd_cons_zero,gd_cons_succ,Nat.reduceBEq,Nat.reduceAdd,int_i,bool_b,str_s,rows_l,Bool.not_true,Bool.not_false,beq_self_eq_true,Bool.and_self]
 rw [List.nil_append]
 rfl
end Go.Proofs.YtchceahcaaibcaaGreat
namespace Go.Proofs.YtchceahcaaibcaaGreat
set_option maxRecDepth 4096
set_option maxHeartbeats 1000000
abbrev i_ShardOkT:FuncId→List T→Option (T × Bool):=find [i_isGroupE,i_RangesOkE,i_StoreOkE,i_LocksOkE,i_heldsOkE,i_ascendingE,i_fromE,cofSFE,cofSCE,i_ConcatE,cofSLE,i_txsOfE,i_sortE,i_clonE,i_compE,i_roomE]
theorem i_ShardOkT_ok:CallOk Tryz.prog i_ShardOkT:=find_ok (fC ⟨i_isGroup_ok,fC ⟨i_RangesOk_ok,fC ⟨i_StoreOk_ok,fC ⟨i_LocksOk_ok,fC ⟨i_heldsOk_ok,fC ⟨i_ascending_ok,fC ⟨i_from_ok,fC ⟨cofSF_ok,fC ⟨cofSC_ok,fC ⟨i_Concat_ok,fC ⟨cofSL_ok,fC ⟨i_txsOf_ok,fC ⟨i_sort_ok,fC ⟨i_clon_ok,fC ⟨i_comp_ok,fC ⟨i_room_ok,fN⟩⟩⟩⟩⟩⟩⟩⟩⟩⟩⟩⟩⟩⟩⟩⟩)
abbrev i_ShardOkK:List Nat:= [0,1,2,3,4,55,65,75]
noncomputable def i_ShardOks0 (N:Nat) (p:List D):Out:=nd (leI ((gd p 3).rows.length:Int) 1000000000&&leI ((gd p 5).rows.length:Int) 1000000000) (ob (leI (roomOf (sub p 0 9)) 60))
noncomputable def i_ShardOks1 (N:Nat) (p:List D):Out:=bif ((compD (.l (sortD (.l ((txsD (gd p 5)).rows++(concD (.l [[gd p 6],[gd p 7]])).rows))).rows)).rows.length:Int)==((sortD (.l ((txsD (gd p 5)).rows++(concD (.l [[gd p 6],[gd p 7]])).rows))).rows.length:Int) then (i_ShardOks0 N p) else ob false
noncomputable def i_ShardOks2 (N:Nat) (p:List D):Out:=nd (leI ((sortD (.l ((txsD (gd p 5)).rows++(concD (.l [[gd p 6],[gd p 7]])).rows))).rows.length:Int) 1000000000) (i_ShardOks1 N p)
noncomputable def i_ShardOks3 (N:Nat) (p:List D):Out:=nd (leI ((sortD (.l ((txsD (gd p 5)).rows++(concD (.l [[gd p 6],[gd p 7]])).rows))).rows.length:Int) 1000000000) (i_ShardOks2 N p)
noncomputable def i_ShardOks4 (N:Nat) (p:List D):Out:=nd (leI (((txsD (gd p 5)).rows++(concD (.l [[gd p 6],[gd p 7]])).rows).length:Int) 1000000000) (i_ShardOks3 N p)
noncomputable def i_ShardOks5 (N:Nat) (p:List D):Out:=nd (lenOk ((txsD (gd p 5)).rows++(concD (.l [[gd p 6],[gd p 7]])).rows)&&true) (i_ShardOks4 N p)
noncomputable def i_ShardOks6 (N:Nat) (p:List D):Out:=bif anyS (fun rr=>ixfSLC (.l [[.l [sub p 0 9],.l [[concD (.l [[gd p 6],[gd p 7]])]]]]) (sub rr 0 4)) (gd p 4) then ob false else nd (leI ((gd p 5).rows.length:Int) 1000000000) (i_ShardOks5 N p)
noncomputable def i_ShardOks7 (N:Nat) (p:List D):Out:=bif anyS (fun rr=>ixfSCC (.l [[.l [sub p 0 9]]]) (sub rr 0 2)) (gd p 3) then ob false else nd (concOk (.l [[gd p 6],[gd p 7]])) (i_ShardOks6 N p)
noncomputable def i_ShardOks8 (N:Nat) (p:List D):Out:=bif anyS (fun rr=>ixfSFC (.l [[.l [sub p 0 9]]]) (sub rr 0 2)) (gd p 2) then ob false else (i_ShardOks7 N p)
noncomputable def i_ShardOks9 (N:Nat) (p:List D):Out:=bif !(ascOk (gd p 7)) then ob false else bif !(inB (gd p 8).int 0 1000000) then ob false else (i_ShardOks8 N p)
noncomputable def i_ShardOks10 (N:Nat) (p:List D):Out:=bif !(heldsOk (sub p 0 9)) then ob false else bif !(ascOk (gd p 6)) then ob false else (i_ShardOks9 N p)
noncomputable def i_ShardOks11 (N:Nat) (p:List D):Out:=bif !(locksOk (gd p 4)) then ob false else nd (leI ((gd p 5).rows.length:Int) 1000000000) (i_ShardOks10 N p)
noncomputable def i_ShardOks12 (N:Nat) (p:List D):Out:=bif !(rangesOk (gd p 2)) then ob false else bif !(storeOk (gd p 3)) then ob false else (i_ShardOks11 N p)
noncomputable def i_ShardOks13 (N:Nat) (p:List D):Out:=bif !(inB (gd p 0).int (0) (3)) then ob false else bif !(rangesOk (gd p 1)) then ob false else (i_ShardOks12 N p)
theorem i_ShardOk_ev (N:Nat) (p:List D):evFn Tryz.prog i_ShardOkT N i_ShardOkK Tryz.f63 rb [⟨ag rIShard,p⟩]=some (bo,(i_ShardOks13 N p)):=by kernel_rfl
def vAt (z:D) (i:Nat):Int:=(gd (z.rows.getD i []) 0).int
theorem numsOf_v (z:D) (i:Nat) (h:i<(numsOf z).length):(numsOf z)[i]=vAt z i:=by
 have h':i<z.rows.length:=by rwa [numsOf_len] at h
 have:=numsOf_at z i h'
 rw [List.getElem?_eq_getElem h] at this
 injection this
theorem hasInt_iff (z:D) (x:Int):hasInt z x=true↔x∈numsOf z:=by
 unfold hasInt anyS
 simp only [List.any_eq_true,List.mem_range,beq_iff_eq]
 constructor
 ·rintro ⟨k,hk,rfl⟩
  have hk':k<(numsOf z).length:=by rwa [numsOf_len]
  exact List.mem_iff_getElem.2 ⟨k,hk',numsOf_v z k hk'⟩
 ·intro h
  obtain ⟨k,hk,rfl⟩:=List.getElem_of_mem h
  exact ⟨k,by rwa [numsOf_len] at hk,numsOf_v z k hk⟩
theorem asc_v {z:D} (h:ascOk z=true):∀ i,i<z.rows.length→(i:Int)+1≤vAt z i∧vAt z i≤60∧∀ j,j<i→vAt z j<vAt z i:=by
 unfold ascOk at h
 rw [List.all_eq_true] at h
 intro i
 induction i with
 | zero =>
  intro hi
  have:=h 0 (List.mem_range.2 hi)
  simp only [ascAt,inB,Bool.and_eq_true,decide_eq_true_eq] at this
  refine ⟨?_,?_,fun j hj=>by omega⟩ <;> unfold vAt <;> omega
 | succ i ih =>
  intro hi
  obtain ⟨h1,h2,h3⟩:=ih (by omega)
  have:=h (i+1) (List.mem_range.2 hi)
  simp only [ascAt,inB,leI,Bool.and_eq_true,decide_eq_true_eq,Bool.not_eq_true',decide_eq_false_iff_not] at this
  unfold vAt at *
  refine ⟨by omega,by omega,fun j hj=>?_⟩
  rcases Nat.lt_or_ge j i with hj' | hj'
  ·have:=h3 j hj'; omega
  ·have:j=i:=by omega
   subst this; omega
theorem asc_len {z:D} (h:ascOk z=true):z.rows.length≤60:=by
 rcases Nat.eq_zero_or_pos z.rows.length with h0 | h0
 ·omega
 ·have:=asc_v h (z.rows.length - 1) (by omega)
  omega
theorem asc_nodup {z:D} (h:ascOk z=true):(numsOf z).Nodup:=by
 refine List.pairwise_iff_getElem.2 fun i j hi hj hij=>?_
 rw [numsOf_v,numsOf_v]
 have:=(asc_v h j (by rwa [numsOf_len] at hj)).2.2 i hij
 omega
def shardAll (p:List D):D:=.l ((txsD (gd p 5)).rows++((gd p 6).rows++(gd p 7).rows))
theorem numsOf_all (p:List D):numsOf (shardAll p)=numsOf (txsD (gd p 5))++(numsOf (gd p 6)++numsOf (gd p 7)):=by
 show List.map _ (_++(_++_))=_
 rw [List.map_append,List.map_append]
 rfl
theorem txs_v (z:D) (i:Nat):vAt (txsD z) i=vAt z i:=by
 unfold vAt txsD
 show (gd ((z.rows.map fun r => [gd r 0]).getD i []) 0).int=_
 rw [List.getD_eq_getElem?_getD,List.getD_eq_getElem?_getD,List.getElem?_map]
 cases z.rows[i]? <;> rfl
theorem txs_len (z:D):(txsD z).rows.length=z.rows.length:=by simp [txsD,D.rows]
def shardApart (p:List D):Bool:=((List.range (gd p 5).rows.length).all fun k => !hasInt (gd p 6) (vAt (gd p 5) k) && !hasInt (gd p 7) (vAt (gd p 5) k))&&((List.range (gd p 6).rows.length).all fun k => !hasInt (gd p 7) (vAt (gd p 6) k))
theorem apart_iff (p:List D) (h5:ascOk (txsD (gd p 5))=true) (h6:ascOk (gd p 6)=true) (h7:ascOk (gd p 7)=true):((compD (sortD (shardAll p))).rows.length==(sortD (shardAll p)).rows.length)=shardApart p:=by
 rw [Bool.eq_iff_iff,beq_iff_eq,comp_sort,numsOf_all]
 have e:shardApart p=true↔(∀ k,k<(gd p 5).rows.length→vAt (gd p 5) k ∉ numsOf (gd p 6)∧vAt (gd p 5) k ∉ numsOf (gd p 7))∧(∀ k,k<(gd p 6).rows.length→vAt (gd p 6) k ∉ numsOf (gd p 7)):=by
  have hn:∀ z x,(!hasInt z x)=true↔x ∉ numsOf z:=fun z x=>by
   rw [← hasInt_iff]; cases hasInt z x <;> simp
  unfold shardApart
  simp only [Bool.and_eq_true,List.all_eq_true,List.mem_range,hn]
 rw [e,List.nodup_append,List.nodup_append]
 have hm:∀ (z:D) (Q:Int→Prop),(∀ a∈numsOf z,Q a)↔∀ k,k<z.rows.length→Q (vAt z k):=fun z Q=>by
  constructor
  ·intro h k hk
   have hk':k<(numsOf z).length:=by rwa [numsOf_len]
   have:=h _ (List.getElem_mem hk')
   rwa [numsOf_v] at this
  ·intro h a ha
   obtain ⟨k,hk,rfl⟩:=List.getElem_of_mem ha
   rw [numsOf_v]
   exact h k (by rwa [numsOf_len] at hk)
 rw [hm (txsD (gd p 5)),hm (gd p 6),txs_len]
 simp only [txs_v]
 constructor
 ·rintro ⟨_,⟨_,_,h3⟩,h4⟩
  exact ⟨fun k hk=>⟨fun h=>h4 k hk _ (List.mem_append.2 (.inl h)) rfl,fun h=>h4 k hk _ (List.mem_append.2 (.inr h)) rfl⟩,fun k hk h=>h3 k hk _ h rfl⟩
 ·rintro ⟨h1,h2⟩
  refine ⟨asc_nodup h5,⟨asc_nodup h6,asc_nodup h7,fun k hk b hb e=>h2 k hk (e▸hb)⟩,fun k hk b hb e=>?_⟩
  subst e
  rcases List.mem_append.1 hb with hb | hb
  ·exact (h1 k hk).1 hb
  ·exact (h1 k hk).2 hb
theorem one_rangeOk {r:List D} (h0:0≤(gd r 0).int) (h1:(gd r 0).int≤999):rangeOk (oneAt r)=true:=by
 show (decide ((gd r 0).int≥0)&&(decide ((gd r 0).int<w64 ((gd r 0).int+1))&&decide (w64 ((gd r 0).int+1)≤1000)))=true
 rw [w64_id (by omega) (by omega)]
 simp only [Bool.and_eq_true,decide_eq_true_eq]
 omega
theorem heldRest_eq {p:List D} {k:Nat} (hz:locksOk (gd p 4)=true):heldRest p k=(heldAt p k&&(!hasInt (gd p 6) (vAt (gd p 5) k) && !hasInt (gd p 7) (vAt (gd p 5) k))):=by
 unfold heldRest heldAt vAt
 cases hw:writesOk (gd ((gd p 5).rows.getD k []) 1) with
 | false=>rfl
 | true =>
  rw [Bool.true_and,Bool.true_and]
  congr 1
  rw [Bool.eq_iff_iff,List.all_eq_true,List.all_eq_true]
  refine forall_congr' fun j=>forall_congr' fun hj=>?_
  unfold writesOk at hw
  simp only [Bool.and_eq_true,List.all_eq_true] at hw
  have hj':=hw.2 j hj
  simp only [writeAt,inB,Bool.and_eq_true,decide_eq_true_eq] at hj'
  rw [hold_same hz (one_rangeOk (by omega) (by omega))]
def shardI (p:List D):Bool:=inB (gd p 0).int 0 3&&(rangesOk (gd p 1)&&(rangesOk (gd p 2)&&(storeOk (gd p 3)&&(locksOk (gd p 4)&&(heldsOk p&&(ascOk (gd p 6)&&(ascOk (gd p 7)&&(inB (gd p 8).int 0 1000000&&(shardA p 2 0 shardC0&&(shardA p 3 2 shardC2&&(shardA p 4 4 shardC4&&(shardApart p&&leI (roomOf p) 60))))))))))))
theorem heldsS_iff {p:List D} (hz:locksOk (gd p 4)=true):heldsOkS p=true↔heldsOk p=true∧∀ k,k<(gd p 5).rows.length→(!hasInt (gd p 6) (vAt (gd p 5) k) && !hasInt (gd p 7) (vAt (gd p 5) k))=true:=by
 unfold heldsOkS heldsOk ascOk
 rw [txs_len]
 simp only [Bool.and_eq_true,List.all_eq_true,List.mem_range]
 have hs:∀ k,heldAtS p k=true↔(heldAt p k=true∧ascAt (txsD (gd p 5)) k=true)∧(!hasInt (gd p 6) (vAt (gd p 5) k) && !hasInt (gd p 7) (vAt (gd p 5) k))=true:=by
  intro k
  have hv:∀ j,(gd ((txsD (gd p 5)).rows.getD j []) 0).int=(gd ((gd p 5).rows.getD j []) 0).int:=fun j=>txs_v (gd p 5) j
  cases k with
  | zero =>
   simp only [heldAtS,ascAt,heldRest_eq hz,hv,Bool.and_eq_true]
   constructor
   ·rintro ⟨a,b,c⟩; exact ⟨⟨b,a⟩,c⟩
   ·rintro ⟨⟨b,a⟩,c⟩; exact ⟨a,b,c⟩
  | succ k =>
   simp only [heldAtS,ascAt,heldRest_eq hz,hv,Bool.and_eq_true]
   constructor
   ·rintro ⟨a,r,b,c⟩; exact ⟨⟨b,a,r⟩,c⟩
   ·rintro ⟨⟨b,a,r⟩,c⟩; exact ⟨a,r,b,c⟩
 simp only [hs,Bool.and_eq_true]
 constructor
 ·intro h; exact ⟨⟨fun k hk=>(h k hk).1.1,fun k hk=>(h k hk).1.2⟩,fun k hk=>(h k hk).2⟩
 ·rintro ⟨⟨h1,h2⟩,h3⟩ k hk; exact ⟨⟨h1 k hk,h2 k hk⟩,h3 k hk⟩
theorem shard_same (p:List D):shardI p=shardOk p:=by
 rw [Bool.eq_iff_iff]
 have hl:∀ {z:D},ascOk z=true→leI (z.rows.length:Int) 60=true:=fun h=>by
  have:=asc_len h
  simp only [leI,decide_eq_true_eq]; omega
 have hasc:heldsOk p=true→leI ((gd p 5).rows.length:Int) 60=true:=fun h=>by
  have h':ascOk (txsD (gd p 5))=true:=by
   unfold heldsOk at h
   simp only [Bool.and_eq_true] at h
   exact h.2
  have:=hl h'
  rwa [txs_len] at this
 have h6:shardA p 6 6 shardC6=true↔((List.range (gd p 6).rows.length).all fun k => !hasInt (gd p 7) (vAt (gd p 6) k))=true:=Iff.rfl
 have hap:shardApart p=true↔(∀ k,k<(gd p 5).rows.length→(!hasInt (gd p 6) (vAt (gd p 5) k) && !hasInt (gd p 7) (vAt (gd p 5) k))=true)∧shardA p 6 6 shardC6=true:=by
  rw [h6]
  unfold shardApart
  rw [Bool.and_eq_true,List.all_eq_true]
  simp only [List.mem_range]
 have hsum:shardSum p=true↔heldsOkS p=true∧leI (roomOf p) 60=true:=by
  unfold shardSum roomOf
  rw [Bool.and_eq_true]
 unfold shardI shardOk
 simp only [Bool.and_eq_true,hap,hsum]
 constructor
 ·rintro ⟨a0,a1,a2,a3,a4,a5,a6,a7,a8,b0,b2,b4,⟨c1,c2⟩,d⟩
  exact ⟨a0,a1,a2,a3,a4,a8,hasc a5,hl a6,hl a7,a6,a7,b0,b2,b4,c2,(heldsS_iff a4).2 ⟨a5,fun k hk=>by simpa using c1 k hk⟩,d⟩
 ·rintro ⟨a0,a1,a2,a3,a4,a8,_,_,_,a6,a7,b0,b2,b4,c2,hs,d⟩
  obtain ⟨a5,c1⟩:=(heldsS_iff a4).1 hs
  exact ⟨a0,a1,a2,a3,a4,a5,a6,a7,a8,b0,b2,b4,⟨fun k hk=>by simpa using c1 k hk,c2⟩,d⟩
theorem have_same {z:D} {q:List D} (hz:rangesOk z=true) (hq:rangeOk q=true):haveAll z q=rangesHave z q:=by
 unfold rangesHave
 rw [hz,hq]
 rfl
theorem ranges_at {z:D} {k:Nat} (hz:rangesOk z=true) (hk:k<z.rows.length):rangeOk (sub (z.rows.getD k []) 0 2)=true:=by
 unfold rangesOk at hz
 simp only [Bool.and_eq_true,List.all_eq_true,List.mem_range] at hz
 have:=hz.1 k hk
 cases k with
 | zero=>exact this
 | succ k=>simp only [rangesAt,Bool.and_eq_true] at this; exact this.1
theorem store_key {z:D} {k:Nat} (hz:storeOk z=true) (hk:k<z.rows.length):0≤(gd (z.rows.getD k []) 0).int∧(gd (z.rows.getD k []) 0).int≤999:=by
 unfold storeOk at hz
 simp only [Bool.and_eq_true,List.all_eq_true,List.mem_range] at hz
 have:=hz.1 k hk
 cases k with
 | zero=>simp only [storeAt,inB,Bool.and_eq_true,decide_eq_true_eq] at this; omega
 | succ k=>simp only [storeAt,inB,Bool.and_eq_true,decide_eq_true_eq] at this; omega
theorem locks_at {z:D} {k:Nat} (hz:locksOk z=true) (hk:k<z.rows.length):rangeOk [gd (z.rows.getD k []) 1,gd (z.rows.getD k []) 2]=true:=by
 unfold locksOk at hz
 simp only [Bool.and_eq_true,List.all_eq_true,List.mem_range] at hz
 have:=hz.1 k hk
 simp only [lockAt,Bool.and_eq_true] at this
 exact this.2.1
theorem anyS_not {C:List D→Bool} {z:D} {A:Nat→Bool} (h:∀ k,k<z.rows.length→C (z.rows.getD k []) = !A k):anyS C z = !(List.range z.rows.length).all A:=by
 unfold anyS
 rw [Bool.eq_iff_iff]
 simp only [List.any_eq_true,List.mem_range,Bool.not_eq_true',← Bool.not_eq_true,List.all_eq_true]
 constructor
 ·rintro ⟨k,hk,hc⟩ ha
  rw [h k hk,ha k hk] at hc
  cases hc
 ·intro hn
  refine Classical.byContradiction fun hne=>hn fun k hk=>?_
  cases hA:A k with
  | true=>rfl
  | false=>exact absurd ⟨k,hk,by rw [h k hk,hA]; rfl⟩ hne
theorem hasInt_app (a b:List (List D)) (x:Int):hasInt (.l (a++b)) x=(hasInt (.l a) x||hasInt (.l b) x):=by
 have e:numsOf (.l (a++b))=numsOf (.l a)++numsOf (.l b):=List.map_append
 rw [Bool.eq_iff_iff,Bool.or_eq_true,hasInt_iff,hasInt_iff,hasInt_iff,e,List.mem_append]
theorem hasInt_rows (z:D) (x:Int):hasInt (.l z.rows) x=hasInt z x:=rfl
theorem shard_f (p:List D) (h1:rangesOk (gd p 1)=true) (h2:rangesOk (gd p 2)=true):anyS (fun rr=>ixfSFC (.l [[.l [sub p 0 9]]]) (sub rr 0 2)) (gd p 2) = !(shardA p 2 0 shardC0):=by
 refine anyS_not fun k hk=>?_
 show (!(haveAll (gd p 1) (sub ((gd p 2).rows.getD k []) 0 2)))=_
 rw [have_same h1 (ranges_at h2 hk)]
 rfl
theorem shard_c (p:List D) (h1:rangesOk (gd p 1)=true) (h3:storeOk (gd p 3)=true):anyS (fun rr=>ixfSCC (.l [[.l [sub p 0 9]]]) (sub rr 0 2)) (gd p 3) = !(shardA p 3 2 shardC2):=by
 refine anyS_not fun k hk=>?_
 show (!(haveAll (gd p 1) (oneAt ((gd p 3).rows.getD k []))))=_
 have:=store_key h3 hk
 rw [have_same h1 (one_rangeOk this.1 this.2)]
 rfl
theorem shard_l (p:List D) (h1:rangesOk (gd p 1)=true) (h4:locksOk (gd p 4)=true):anyS (fun rr=>ixfSLC (.l [[.l [sub p 0 9],.l [[concD (.l [[gd p 6],[gd p 7]])]]]]) (sub rr 0 4)) (gd p 4) = !(shardA p 4 4 shardC4):=by
 refine anyS_not fun k hk=>?_
 show (bif !(haveAll (gd p 1) [gd ((gd p 4).rows.getD k []) 1,gd ((gd p 4).rows.getD k []) 2]) then true else hasInt (.l ((gd p 6).rows++(gd p 7).rows)) (gd ((gd p 4).rows.getD k []) 0).int)=_
 rw [have_same h1 (locks_at h4 hk),hasInt_app,hasInt_rows,hasInt_rows]
 unfold shardC4
 cases rangesHave (gd p 1) [gd ((gd p 4).rows.getD k []) 1,gd ((gd p 4).rows.getD k []) 2] <;> cases hasInt (gd p 6) (gd ((gd p 4).rows.getD k []) 0).int <;> cases hasInt (gd p 7) (gd ((gd p 4).rows.getD k []) 0).int <;> rfl
def shardSmall (p:List D):Bool:=leI ((gd p 3).rows.length:Int) 100000000&&(leI ((gd p 5).rows.length:Int) 100000000&&(leI ((gd p 6).rows.length:Int) 100000000&&leI ((gd p 7).rows.length:Int) 100000000))
theorem ob_step2 {a c g:Bool} {x:Out} (hc:c = !a) (h:a=true→x=ob g):(bif c then ob false else x)=ob (a&&g):=by
 subst hc
 exact ob_step h
def i_ShardOkE:Ent:=(63,e1 (ag rIShard) fun p=>(⟨rb,[.b (shardOk p)]⟩,shardSmall p))
theorem i_ShardOk_ok:EntOk Tryz.prog i_ShardOkE:=e1_ok fun p h=>evFn_sound (N:=0) (ks:=i_ShardOkK) (key:=bo) i_ShardOkT_ok (enters Tryz.func63) Tryz.func63 fun hw=>by
 rw [i_ShardOk_ev]
 have h:shardSmall p=true:=h
 unfold shardSmall at h
 simp only [Bool.and_eq_true,leI,decide_eq_true_eq] at h
 obtain ⟨h3,h5,h6,h7⟩:=h
 refine congrArg (fun x=>some (bo,x)) ?_
 show i_ShardOks13 0 p=ob (shardOk p)
 have l9:leI ((gd p 5).rows.length:Int) 1000000000=true:=leI_t (by omega)
 have lall:(shardAll p).rows.length=(gd p 5).rows.length+((gd p 6).rows.length+(gd p 7).rows.length):=by
  show ((txsD (gd p 5)).rows++((gd p 6).rows++(gd p 7).rows)).length=_
  rw [List.length_append,List.length_append,txs_len]
 have lsort:(sortD (shardAll p)).rows.length=(shardAll p).rows.length:=by rw [sortD,numsD_len,sortL_len,numsOf_len]
 rw [← shard_same]
 unfold i_ShardOks13 i_ShardOks12 shardI
 refine ob_step fun _=>ob_step fun a1=>ob_step fun a2=>ob_step fun a3=>?_
 unfold i_ShardOks11
 refine ob_step fun a4=>?_
 rw [l9,nd_true]
 unfold i_ShardOks10
 refine ob_step (a:=heldsOk p) fun a5=>ob_step fun a6=>?_
 unfold i_ShardOks9
 refine ob_step fun a7=>ob_step fun _=>?_
 unfold i_ShardOks8
 refine ob_step2 (shard_f p a1 a2) fun _=>?_
 unfold i_ShardOks7
 refine ob_step2 (shard_c p a1 a3) fun _=>?_
 have hcc:concOk (.l [[gd p 6],[gd p 7]])=true:=by
  show (true&&(leI ((gd p 6).rows.length:Int) 100000000&&leI ((gd p 7).rows.length:Int) 100000000))=true
  rw [leI_t (by omega),leI_t (by omega)]
  rfl
 rw [hcc,nd_true]
 unfold i_ShardOks6
 refine ob_step2 (shard_l p a1 a4) fun _=>?_
 rw [l9,nd_true]
 unfold heldsOk at a5
 simp only [Bool.and_eq_true] at a5
 show nd (lenOk (shardAll p).rows&&true) (i_ShardOks4 0 p)=_
 rw [lenOk_t (by omega)]
 show nd (leI ((shardAll p).rows.length:Int) 1000000000) (nd (leI ((sortD (shardAll p)).rows.length:Int) 1000000000) (nd (leI ((sortD (shardAll p)).rows.length:Int) 1000000000) (bif ((compD (sortD (shardAll p))).rows.length:Int)==((sortD (shardAll p)).rows.length:Int) then (nd (leI ((gd p 3).rows.length:Int) 1000000000&&leI ((gd p 5).rows.length:Int) 1000000000) (ob (leI (roomOf p) 60))) else ob false)))=_
 rw [lsort,leI_t (by omega),nd_true,nd_true,nd_true,leI_t (by omega),l9,Bool.and_self,nd_true,← lsort]
 have e:=apart_iff p a5.2 a6 a7
 rw [← e]
 have e':(((compD (sortD (shardAll p))).rows.length:Int)==((sortD (shardAll p)).rows.length:Int))=((compD (sortD (shardAll p))).rows.length==(sortD (shardAll p)).rows.length):=by
  rw [Bool.eq_iff_iff,beq_iff_eq,beq_iff_eq]; omega
 rw [e']
 cases (compD (sortD (shardAll p))).rows.length==(sortD (shardAll p)).rows.length <;> rfl
end Go.Proofs.YtchceahcaaibcaaGreat
namespace Go.Proofs.YtchceahcaaibcaaGreat
set_option maxRecDepth 4096
set_option maxHeartbeats 1000000
abbrev i_TownOkT:FuncId→List T→Option (T × Bool):=find [i_AtlasOkE,i_fromE,i_CoordOkE,i_ShardOkE,cofTPE,cofTCE,cofTLE,cofTEE]
theorem i_TownOkT_ok:CallOk Tryz.prog i_TownOkT:=find_ok (fC ⟨i_AtlasOk_ok,fC ⟨i_from_ok,fC ⟨i_CoordOk_ok,fC ⟨i_ShardOk_ok,fC ⟨cofTP_ok,fC ⟨cofTC_ok,fC ⟨cofTL_ok,fC ⟨cofTE_ok,fN⟩⟩⟩⟩⟩⟩⟩⟩)
abbrev i_TownOkK:List Nat:= [0,1,2,3,4,5,58,60,61,62,63,75,87,91,1000058,1000063,1000075,1000087,1000091]
noncomputable def i_TownOkL0 (N:Nat) (p:List D):List D→Out:=loopOf Tryz.prog i_TownOkT N i_TownOkK Tryz.f16 rb [⟨ag rITown,p⟩] 0
theorem i_TownOkR0 (N:Nat) (p:List D) (x0 x1 x2 x3 x4 x5 x6 x7 x8 x9 x10 x11 x12 x13 x14 x15 x16 x17 x18 x19 x20 x21 x22 x23 x24 x25 x26 x27 x28 x29 x30 x31 x32 x33 x34 x35 x36:D):(i_TownOkL0 N p) [x0,x1,x2,x3,x4,x5,x6,x7,x8,x9,x10,x11,x12,x13,x14,x15,x16,x17,x18,x19,x20,x21,x22,x23,x24,x25,x26,x27,x28,x29,x30,x31,x32,x33,x34,x35,x36] =
 bif ltI x20.int x19.int then nd (inRange x20.int x18.rows.length) (nd (shardSmall (sub (x18.rows.getD x20.int.toNat []) 0 9)) (bif !(shardOk (sub (x18.rows.getD x20.int.toNat []) 0 9)) then ob false
 else bif (gd (x18.rows.getD x20.int.toNat []) 0).int != x20.int then ob false
 else nx [x0,x1,x2,x3,x4,x5,x6,x7,x8,x9,x10,x11,x12,x13,x14,x15,x16,x17,x18,x19,.i (w64 (x20.int+1)),x21,x22,x23,x24,x25,x26,x27,x28,x29,x30,x31,x32,x33,x34,x35,x36]))
 else ex 0 [x0,x1,x2,x3,x4,x5,x6,x7,x8,x9,x10,x11,x12,x13,x14,x15,x16,x17,x18,x19,x20,x21,x22,x23,x24,x25,x26,x27,x28,x29,x30,x31,x32,x33,x34,x35,x36]:=by kernel_rfl
noncomputable def i_TownOks0 (N:Nat) (p:List D) (o0:Out):Out:=bif anyS (fun rr=>ixfTLC (.l [[.l [[gd o0.pay 36]],.l [sub o0.pay 21 15]]]) (sub rr 0 14)) (gd o0.pay 34) then ob false else ob (!(anyS (fun rr=>ixfTEC (.l [[.l [sub o0.pay 21 15]]]) (sub rr 0 7)) (gd o0.pay 35)))
noncomputable def i_TownOks1 (N:Nat) (p:List D) (o0:Out):Out:=bif anyS (fun rr=>ixfTCC (.l [[.l [[gd o0.pay 36]]]]) (sub rr 0 9)) (gd o0.pay 33) then ob false else (i_TownOks0 N p o0)
noncomputable def i_TownOks2 (N:Nat) (p:List D) (o0:Out):Out:=nd ((List.range (gd o0.pay 33).rows.length).all fun k=>clientSmall (sub ((gd o0.pay 33).rows.getD k []) 0 9)) (i_TownOks1 N p o0)
noncomputable def i_TownOks3 (N:Nat) (p:List D) (o0:Out):Out:=bif anyS (fun rr=>ixfTPC (.l [[.l [[gd o0.pay 36]]]]) (sub rr 0 3)) (gd o0.pay 22) then ob false else (i_TownOks2 N p o0)
noncomputable def i_TownOks4 (N:Nat) (p:List D):Out:=let o0:Out:=iter (i_TownOkL0 N p) N [gd p 0,gd p 1,gd p 2,gd p 3,gd p 4,gd p 5,gd p 6,gd p 7,gd p 8,gd p 9,gd p 10,gd p 11,gd p 12,gd p 13,gd p 14,.i 0,.i 0,.i 0,gd p 9,.i ((gd p 9).rows.length:Int),.i 0,gd p 0,gd p 1,gd p 2,gd p 3,gd p 4,gd p 5,gd p 6,gd p 7,gd p 8,gd p 9,gd p 10,gd p 11,gd p 12,gd p 13,gd p 14,.i ((gd p 9).rows.length:Int)]; nd o0.isSome (bif o0.code==1 then some (1,o0.pay) else nd (o0.code==2) (i_TownOks3 N p o0))
noncomputable def i_TownOks5 (N:Nat) (p:List D):Out:=bif ltI 60 ((gd p 13).rows.length:Int) then ob false else bif ltI 200 ((gd p 14).rows.length:Int) then ob false else (i_TownOks4 N p)
noncomputable def i_TownOks6 (N:Nat) (p:List D):Out:=bif !(coordOk (sub p 10 2)) then ob false else bif !(inB ((gd p 12).rows.length:Int) 1 6) then ob false else (i_TownOks5 N p)
noncomputable def i_TownOks7 (N:Nat) (p:List D):Out:=bif leI ((gd p 9).rows.length:Int) (gd p 6).int then ob false else bif leI ((gd p 9).rows.length:Int) (gd p 7).int then ob false else (i_TownOks6 N p)
noncomputable def i_TownOks8 (N:Nat) (p:List D):Out:=bif !(atlasOk (sub p 0 9)) then ob false else bif !(inB ((gd p 9).rows.length:Int) 1 4) then ob false else (i_TownOks7 N p)
theorem i_TownOk_ev (N:Nat) (p:List D):evFn Tryz.prog i_TownOkT N i_TownOkK Tryz.f16 rb [⟨ag rITown,p⟩]=some (bo,(i_TownOks8 N p)):=by kernel_rfl
def townSmall (p:List D):Bool:=((List.range (gd p 9).rows.length).all fun k=>shardSmall (sub ((gd p 9).rows.getD k []) 0 9))&&((List.range (gd p 12).rows.length).all fun k=>clientSmall (sub ((gd p 12).rows.getD k []) 0 9))
def townI (p:List D):Bool:=atlasOk (sub p 0 9)&&(inB ((gd p 9).rows.length:Int) 1 4&&(!leI ((gd p 9).rows.length:Int) (gd p 6).int&&(!leI ((gd p 9).rows.length:Int) (gd p 7).int&&(coordOk (sub p 10 2)&&(inB ((gd p 12).rows.length:Int) 1 6&&(leI ((gd p 13).rows.length:Int) 60&&(leI ((gd p 14).rows.length:Int) 200&&(shardA p 9 0 townC0&&(ownersIn (gd p 1) ((gd p 9).rows.length:Int)&&(clientsOk (gd p 12) ((gd p 9).rows.length:Int)&&(shardA p 13 2 townC2&&(shardA p 14 4 townC4))))))))))))
theorem town_same (p:List D):townI p=townOk p:=by
 rw [Bool.eq_iff_iff]
 unfold townI townOk
 simp only [Bool.and_eq_true]
 constructor
 ·rintro ⟨a0,a1,b1,b2,a2,a3,a4,a5,c0,b0,b3,c2,c4⟩
  exact ⟨a0,a1,a2,a3,a4,a5,b0,b1,b2,b3,c0,c2,c4⟩
 ·rintro ⟨a0,a1,a2,a3,a4,a5,b0,b1,b2,b3,c0,c2,c4⟩
  exact ⟨a0,a1,b1,b2,a2,a3,a4,a5,c0,b0,b3,c2,c4⟩
theorem i_TownOkI0 (p:List D) (N:Nat) (hN:(gd p 9).rows.length<N) (hl:(gd p 9).rows.length≤9223372036854775807) (hs:∀ k,k<(gd p 9).rows.length→shardSmall (sub ((gd p 9).rows.getD k []) 0 9)=true):iter (i_TownOkL0 N p) N [gd p 0,gd p 1,gd p 2,gd p 3,gd p 4,gd p 5,gd p 6,gd p 7,gd p 8,gd p 9,gd p 10,gd p 11,gd p 12,gd p 13,gd p 14,.i 0,.i 0,.i 0,gd p 9,.i ((gd p 9).rows.length:Int),.i 0,gd p 0,gd p 1,gd p 2,gd p 3,gd p 4,gd p 5,gd p 6,gd p 7,gd p 8,gd p 9,gd p 10,gd p 11,gd p 12,gd p 13,gd p 14,.i ((gd p 9).rows.length:Int)]=some (bif shardA p 9 0 townC0 then (2,[gd p 0,gd p 1,gd p 2,gd p 3,gd p 4,gd p 5,gd p 6,gd p 7,gd p 8,gd p 9,gd p 10,gd p 11,gd p 12,gd p 13,gd p 14,.i 0,.i 0,.i 0,gd p 9,.i ((gd p 9).rows.length:Int),.i ((gd p 9).rows.length:Int),gd p 0,gd p 1,gd p 2,gd p 3,gd p 4,gd p 5,gd p 6,gd p 7,gd p 8,gd p 9,gd p 10,gd p 11,gd p 12,gd p 13,gd p 14,.i ((gd p 9).rows.length:Int)]) else (1,[.b false])):=by
 have e:=for_loop (L:=i_TownOkL0 N p) (fun k => [gd p 0,gd p 1,gd p 2,gd p 3,gd p 4,gd p 5,gd p 6,gd p 7,gd p 8,gd p 9,gd p 10,gd p 11,gd p 12,gd p 13,gd p 14,.i 0,.i 0,.i 0,gd p 9,.i ((gd p 9).rows.length:Int),.i (k:Int),gd p 0,gd p 1,gd p 2,gd p 3,gd p 4,gd p 5,gd p 6,gd p 7,gd p 8,gd p 9,gd p 10,gd p 11,gd p 12,gd p 13,gd p 14,.i ((gd p 9).rows.length:Int)]) (gd p 9).rows.length (townC0 p) [.b false] 0 (fun k hk=>?_) ?_ (N:=N) hN
 ·simp only [Int.natCast_zero] at e
  exact e
 ·show i_TownOkL0 _ p [_,_,_,_,_,_,_,_,_,_,_,_,_,_,_,_,_,_,_,_,.i (k:Int),_,_,_,_,_,_,_,_,_,_,_,_,_,_,_,_]=_
  rw [i_TownOkR0]
  simp only [int_i,c_lt hk,nd_ix hk,w64_succ hk hl,Int.toNat_natCast,hs k hk,nd_true,bne]
  unfold townC0
  cases shardOk (sub ((gd p 9).rows.getD k []) 0 9) <;> cases ((gd ((gd p 9).rows.getD k []) 0).int==(k:Int)) <;> rfl
 ·show i_TownOkL0 _ p [_,_,_,_,_,_,_,_,_,_,_,_,_,_,_,_,_,_,_,_,.i ((gd p 9).rows.length:Int),_,_,_,_,_,_,_,_,_,_,_,_,_,_,_,_]=_
  rw [i_TownOkR0]
  simp only [int_i,c_nlt]
theorem town_l (p:List D):anyS (fun rr=>ixfTLC (.l [[.l [[.i ((gd p 9).rows.length:Int)]],.l [sub p 0 15]]]) (sub rr 0 14)) (gd p 13) = !(shardA p 13 2 townC2):=by
 refine anyS_not fun k hk=>?_
 show (bif !(letterOk (sub ((gd p 13).rows.getD k []) 0 14)) then true else bif leI ((gd p 9).rows.length:Int) (gd ((gd p 13).rows.getD k []) 1).int then true else leI ((gd p 12).rows.length:Int) (gd ((gd p 13).rows.getD k []) 2).int)=_
 unfold townC2
 cases letterOk (sub ((gd p 13).rows.getD k []) 0 14) <;> cases leI ((gd p 9).rows.length:Int) (gd ((gd p 13).rows.getD k []) 1).int <;> cases leI ((gd p 12).rows.length:Int) (gd ((gd p 13).rows.getD k []) 2).int <;> rfl
theorem town_e (p:List D):anyS (fun rr=>ixfTEC (.l [[.l [sub p 0 15]]]) (sub rr 0 7)) (gd p 14) = !(shardA p 14 4 townC4):=by
 refine anyS_not fun k hk=>?_
 rfl
theorem town_c (p:List D) (n:Int):anyS (fun rr=>ixfTCC (.l [[.l [[.i n]]]]) (sub rr 0 9)) (gd p 12) = !(clientsOk (gd p 12) n):=by
 refine anyS_not fun k hk=>?_
 rfl
theorem town_p (p:List D) (n:Int):anyS (fun rr=>ixfTPC (.l [[.l [[.i n]]]]) (sub rr 0 3)) (gd p 1) = !(ownersIn (gd p 1) n):=by
 refine anyS_not fun k hk=>?_
 show leI n (gd ((gd p 1).rows.getD k []) 2).int = !!leI n (gd ((gd p 1).rows.getD k []) 2).int
 rw [Bool.not_not]
def i_TownOkE:Ent:=(16,e1 (ag rITown) fun p=>(⟨rb,[.b (townOk p)]⟩,townSmall p))
theorem i_TownOk_ok:EntOk Tryz.prog i_TownOkE:=e1_ok fun p h=>evFn_sound (N:=(gd p 9).rows.length+1) (ks:=i_TownOkK) (key:=bo) i_TownOkT_ok (enters Tryz.func16) Tryz.func16 fun hw=>by
 rw [i_TownOk_ev]
 have h:townSmall p=true:=h
 unfold townSmall at h
 simp only [Bool.and_eq_true] at h
 obtain ⟨h1,h2⟩:=h
 have hl:(gd p 9).rows.length≤9223372036854775807:=wt_at (hw ⟨ag rITown,p⟩ (by simp)) rfl
 have hs:∀ k,k<(gd p 9).rows.length→shardSmall (sub ((gd p 9).rows.getD k []) 0 9)=true:=fun k hk=>List.all_eq_true.1 h1 k (List.mem_range.2 hk)
 refine congrArg (fun x=>some (bo,x)) ?_
 show i_TownOks8 ((gd p 9).rows.length+1) p=ob (townOk p)
 rw [← town_same]
 unfold i_TownOks8 i_TownOks7 i_TownOks6 i_TownOks5 townI
 simp only [lt60,lt200]
 refine ob_step fun _=>ob_step fun _=>ob_stepn (ob_stepn (ob_step fun _=>ob_step fun _=>ob_step fun _=>ob_step fun _=>?_))
 rw [show i_TownOks4 ((gd p 9).rows.length+1) p=nd (iter (i_TownOkL0 ((gd p 9).rows.length+1) p) ((gd p 9).rows.length+1) [gd p 0,gd p 1,gd p 2,gd p 3,gd p 4,gd p 5,gd p 6,gd p 7,gd p 8,gd p 9,gd p 10,gd p 11,gd p 12,gd p 13,gd p 14,.i 0,.i 0,.i 0,gd p 9,.i ((gd p 9).rows.length:Int),.i 0,gd p 0,gd p 1,gd p 2,gd p 3,gd p 4,gd p 5,gd p 6,gd p 7,gd p 8,gd p 9,gd p 10,gd p 11,gd p 12,gd p 13,gd p 14,.i ((gd p 9).rows.length:Int)]).isSome (bif Out.code (iter (i_TownOkL0 ((gd p 9).rows.length+1) p) ((gd p 9).rows.length+1) [gd p 0,gd p 1,gd p 2,gd p 3,gd p 4,gd p 5,gd p 6,gd p 7,gd p 8,gd p 9,gd p 10,gd p 11,gd p 12,gd p 13,gd p 14,.i 0,.i 0,.i 0,gd p 9,.i ((gd p 9).rows.length:Int),.i 0,gd p 0,gd p 1,gd p 2,gd p 3,gd p 4,gd p 5,gd p 6,gd p 7,gd p 8,gd p 9,gd p 10,gd p 11,gd p 12,gd p 13,gd p 14,.i ((gd p 9).rows.length:Int)])==1 then some (1,Out.pay (iter (i_TownOkL0 ((gd p 9).rows.length+1) p) ((gd p 9).rows.length+1) [gd p 0,gd p 1,gd p 2,gd p 3,gd p 4,gd p 5,gd p 6,gd p 7,gd p 8,gd p 9,gd p 10,gd p 11,gd p 12,gd p 13,gd p 14,.i 0,.i 0,.i 0,gd p 9,.i ((gd p 9).rows.length:Int),.i 0,gd p 0,gd p 1,gd p 2,gd p 3,gd p 4,gd p 5,gd p 6,gd p 7,gd p 8,gd p 9,gd p 10,gd p 11,gd p 12,gd p 13,gd p 14,.i ((gd p 9).rows.length:Int)])) else nd (Out.code (iter (i_TownOkL0 ((gd p 9).rows.length+1) p) ((gd p 9).rows.length+1) [gd p 0,gd p 1,gd p 2,gd p 3,gd p 4,gd p 5,gd p 6,gd p 7,gd p 8,gd p 9,gd p 10,gd p 11,gd p 12,gd p 13,gd p 14,.i 0,.i 0,.i 0,gd p 9,.i ((gd p 9).rows.length:Int),.i 0,gd p 0,gd p 1,gd p 2,gd p 3,gd p 4,gd p 5,gd p 6,gd p 7,gd p 8,gd p 9,gd p 10,gd p 11,gd p 12,gd p 13,gd p 14,.i ((gd p 9).rows.length:Int)])==2) (i_TownOks3 ((gd p 9).rows.length+1) p (iter (i_TownOkL0 ((gd p 9).rows.length+1) p) ((gd p 9).rows.length+1) [gd p 0,gd p 1,gd p 2,gd p 3,gd p 4,gd p 5,gd p 6,gd p 7,gd p 8,gd p 9,gd p 10,gd p 11,gd p 12,gd p 13,gd p 14,.i 0,.i 0,.i 0,gd p 9,.i ((gd p 9).rows.length:Int),.i 0,gd p 0,gd p 1,gd p 2,gd p 3,gd p 4,gd p 5,gd p 6,gd p 7,gd p 8,gd p 9,gd p 10,gd p 11,gd p 12,gd p 13,gd p 14,.i ((gd p 9).rows.length:Int)]))) from by kernel_rfl]
 rw [i_TownOkI0 p _ (by omega) hl hs]
 cases shardA p 9 0 townC0 with
 | false=>rfl
 | true =>
  rw [Bool.true_and]
  show (bif anyS (fun rr=>ixfTPC (.l [[.l [[.i ((gd p 9).rows.length:Int)]]]]) (sub rr 0 3)) (gd p 1) then ob false else nd ((List.range (gd p 12).rows.length).all fun k=>clientSmall (sub ((gd p 12).rows.getD k []) 0 9)) (bif anyS (fun rr=>ixfTCC (.l [[.l [[.i ((gd p 9).rows.length:Int)]]]]) (sub rr 0 9)) (gd p 12) then ob false else bif anyS (fun rr=>ixfTLC (.l [[.l [[.i ((gd p 9).rows.length:Int)]],.l [sub p 0 15]]]) (sub rr 0 14)) (gd p 13) then ob false else ob (!(anyS (fun rr=>ixfTEC (.l [[.l [sub p 0 15]]]) (sub rr 0 7)) (gd p 14)))))=_
  rw [town_p,town_c,town_l,town_e,h2,nd_true]
  cases ownersIn (gd p 1) ((gd p 9).rows.length:Int) <;> cases clientsOk (gd p 12) ((gd p 9).rows.length:Int) <;> cases shardA p 13 2 townC2 <;> cases shardA p 14 4 townC4 <;> rfl
end Go.Proofs.YtchceahcaaibcaaGreat
namespace Go.Proofs.YtchceahcaaibcaaGreat
theorem map_getD {f:List D→List D} {l:List (List D)} {k:Nat} (h:k<l.length):(l.map f).getD k []=f (l.getD k []):=by
 rw [List.getD_eq_getElem?_getD,List.getD_eq_getElem?_getD,List.getElem?_map,List.getElem?_eq_getElem h]
 rfl
theorem getD_mem {l:List (List D)} {k:Nat} (h:k<l.length):l.getD k []∈l:=by
 rw [List.getD_eq_getElem?_getD,List.getElem?_eq_getElem h]
 exact List.getElem_mem h
theorem mapD_len (f:List D→List D) (z:D):(D.l (z.rows.map f)).rows.length=z.rows.length:=List.length_map ..
theorem town_small {p:List D} (h:sizeTown p≤1048576):townSmall (cpTown p)=true:=by
 unfold sizeTown sizeShardS sizeClientS at h
 unfold townSmall
 rw [Bool.and_eq_true,List.all_eq_true,List.all_eq_true]
 constructor
 ·intro k hk
  have hk:k<(gd p 9).rows.length:=by
   have hk:=List.mem_range.1 hk
   have e:(gd (cpTown p) 9).rows.length=(gd p 9).rows.length:=mapD_len _ _
   omega
  have hm:=total_mem (size:=fun r=>sizeShard (sub r 0 9)) (getD_mem hk)
  have e:(gd (cpTown p) 9).rows.getD k []=cpShard (sub ((gd p 9).rows.getD k []) 0 9):=map_getD hk
  rw [e]
  generalize (gd p 9).rows.getD k []=r at *
  show shardSmall (cpShard r)=true
  have hm:sizeShard r≤total (fun r=>sizeShard (sub r 0 9)) (gd p 9).rows:=hm
  replace hm:sizeShard r≤1048576:=by omega
  unfold sizeShard sizeCellS sizeHeldS sizeIntS at hm
  have l3:(gd (cpShard r) 3).rows.length=(gd r 3).rows.length:=mapD_len _ _
  have l5:(gd (cpShard r) 5).rows.length=(gd r 5).rows.length:=mapD_len _ _
  have l6:(gd (cpShard r) 6).rows.length=(gd r 6).rows.length:=mapD_len _ _
  have l7:(gd (cpShard r) 7).rows.length=(gd r 7).rows.length:=mapD_len _ _
  unfold shardSmall
  simp only [l3,l5,l6,l7,Bool.and_eq_true,leI,decide_eq_true_eq]
  omega
 ·intro k hk
  have hk:k<(gd p 12).rows.length:=by
   have hk:=List.mem_range.1 hk
   have e:(gd (cpTown p) 12).rows.length=(gd p 12).rows.length:=mapD_len _ _
   omega
  have hm:=total_mem (size:=fun r=>sizeClient (sub r 0 9)) (getD_mem hk)
  have e:(gd (cpTown p) 12).rows.getD k []=cpClient (sub ((gd p 12).rows.getD k []) 0 9):=map_getD hk
  rw [e]
  generalize (gd p 12).rows.getD k []=r at *
  show clientSmall (cpClient r)=true
  have hm:sizeClient r≤total (fun r=>sizeClient (sub r 0 9)) (gd p 12).rows:=hm
  replace hm:sizeClient r≤1048576:=by omega
  unfold sizeClient sizeWriteS sizeSeenS sizePartS at hm
  have l3:(gd (cpClient r) 3).rows.length=(gd r 3).rows.length:=mapD_len _ _
  have l4:(gd (cpClient r) 4).rows.length=(gd r 4).rows.length:=mapD_len _ _
  have l8:(gd (cpClient r) 8).rows.length=(gd r 8).rows.length:=mapD_len _ _
  unfold clientSmall
  simp only [l3,l4,l8,Bool.and_eq_true,leI,decide_eq_true_eq]
  omega
end Go.Proofs.YtchceahcaaibcaaGreat
namespace Go.Proofs.YtchceahcaaibcaaGreat
set_option maxRecDepth 4096
set_option maxHeartbeats 1000000
abbrev i_haveAny_1T:FuncId→List T→Option (T × Bool):=find [i_meetsE]
theorem i_haveAny_1T_ok:CallOk Tryz.prog i_haveAny_1T:=find_ok (fC ⟨i_meets_ok,fN⟩)
abbrev i_haveAny_1K:List Nat:= [0,1,2,3]
theorem i_haveAny_1_ev (N:Nat) (p q:List D):evFn Tryz.prog i_haveAny_1T N i_haveAny_1K Tryz.f287 rb [⟨ag rIRange,p⟩,⟨.one (.c (.cptr [si,si] 0)),q⟩]=some (bo,
 ob (i_meetsF (sub ((gd q 0).rows.getD 0 []) 0 2) (sub p 0 2))):=by kernel_rfl
def i_haveAny_1F (p q:List D):Bool:=
 i_meetsF (sub ((gd q 0).rows.getD 0 []) 0 2) (sub p 0 2)
def i_haveAny_1E:Ent:=(287,e2 (ag rIRange) (.one (.c (.cptr [si,si] 0))) fun p q=>(⟨rb,[.b (i_haveAny_1F p [gd q 0])]⟩,true))
theorem i_haveAny_1_ok:EntOk Tryz.prog i_haveAny_1E:=e2_ok fun p q h=>evFn_sound (N:=0) (ks:=i_haveAny_1K) (key:=bo) i_haveAny_1T_ok (enters Tryz.func287) Tryz.func287 fun hw=>by
 rw [i_haveAny_1_ev]
 try simp only [cond_ob,cond_oi,cond_os]
 rfl
abbrev ixfHAT:FuncId→List T→Option (T × Bool):=find [i_haveAny_1E]
theorem ixfHAT_ok:CallOk Tryz.prog ixfHAT:=find_ok (fC ⟨i_haveAny_1_ok,fN⟩)
abbrev ixfHAK:List Nat:= [0,1,4,5,7,8,9,16]
noncomputable def ixfHAL0 (N:Nat) (p q:List D):List D→Out:=loopOf Tryz.prog ixfHAT N ixfHAK Tryz.f264 ri [⟨sd (.sl 122),p⟩,⟨.one (.c (.fn 287 [.cptr [si,si] 0])),q⟩] 0
theorem ixfHAR0 (N:Nat) (p q:List D) (x0 x1 x2 x3 x4:D):(ixfHAL0 N p q) [x0,x1,x2,x3,x4] =
 bif ltI x4.int x3.int then nd (inRange x4.int x0.rows.length) (bif i_haveAny_1F (sub (x0.rows.getD x4.int.toNat []) 0 2) [gd (x1.rows.getD 0 []) 0] then some (1,[x4])
 else nx [x0,x1,x2,x3,.i (w64 (x4.int+1))])
 else ex 0 [x0,x1,x2,x3,x4]:=by kernel_rfl
theorem ixfHA_ev (N:Nat) (p q:List D):evFn Tryz.prog ixfHAT N ixfHAK Tryz.f264 ri [⟨sd (.sl 122),p⟩,⟨.one (.c (.fn 287 [.cptr [si,si] 0])),q⟩]=some (bo,
 (let o0:=iter (ixfHAL0 N p q) N [gd p 0,gd q 0,.i 0,.i ((gd p 0).rows.length:Int),.i 0]
  nd o0.isSome (bif o0.code==1 then some (1,o0.pay)
  else nd (o0.code==2) (oi (-1))))):=by kernel_rfl
def ixfHAC (c:D) (r:List D):Bool:=i_haveAny_1F r [gd (c.rows.getD 0 []) 0]
def ixfHAE:Ent:=(264,e2 (sd (.sl 122)) (.one (.c (.fn 287 [.cptr [si,si] 0]))) fun p q=>(⟨ri,[.i (ixF (fun k=>ixfHAC (gd q 0) (sub ((gd p 0).rows.getD k []) 0 2)) 0 (gd p 0).rows.length)]⟩,true))
theorem ixfHA_ok:EntOk Tryz.prog ixfHAE:=e2_ok fun p q h=>evFn_sound (N:=(gd p 0).rows.length+1) (ks:=ixfHAK) (key:=bo) ixfHAT_ok (enters Tryz.func264) Tryz.func264 fun hw=>by
 rw [ixfHA_ev]
 have hl:=wt_sl (hw ⟨sd (.sl 122),p⟩ (by simp))
 have e:=ix_loop (L:=ixfHAL0 ((gd p 0).rows.length+1) p q) (fun k => [gd p 0,gd q 0,.i 0,.i ((gd p 0).rows.length:Int),.i (k:Int)]) (gd p 0).rows.length (fun k=>ixfHAC (gd q 0) (sub ((gd p 0).rows.getD k []) 0 2)) [gd p 0,gd q 0,.i 0,.i ((gd p 0).rows.length:Int),.i ((gd p 0).rows.length:Int)] (fun k hk=>?_) ?_ (gd p 0).rows.length 0 ((gd p 0).rows.length+1) (by omega) (by omega)
 ·simp only [Int.natCast_zero] at e
  rw [e]
  have hno:=ixF_neg (fun k=>ixfHAC (gd q 0) (sub ((gd p 0).rows.getD k []) 0 2)) (gd p 0).rows.length 0
  cases hd:decide (ixF (fun k=>ixfHAC (gd q 0) (sub ((gd p 0).rows.getD k []) 0 2)) 0 (gd p 0).rows.length≥0)
  ·rw [hno hd]; rfl
  ·rfl
 ·show ixfHAL0 _ p q [_,_,_,_,.i (k:Int)]=_
  rw [ixfHAR0]
  simp only [int_i,c_lt hk,nd_ix hk,w64_succ hk hl,Int.toNat_natCast]
  unfold ixfHAC
  cases i_haveAny_1F (sub ((gd p 0).rows.getD k []) 0 2) [gd ((gd q 0).rows.getD 0 []) 0] <;> rfl
 ·show ixfHAL0 _ p q [_,_,_,.i ((gd p 0).rows.length:Int),.i ((gd p 0).rows.length:Int)]=_
  rw [ixfHAR0]
  simp only [int_i,c_nlt]
abbrev cofHAT:FuncId→List T→Option (T × Bool):=find [ixfHAE,i_haveAny_1E]
theorem cofHAT_ok:CallOk Tryz.prog cofHAT:=find_ok (fC ⟨ixfHA_ok,fC ⟨i_haveAny_1_ok,fN⟩⟩)
abbrev cofHAK:List Nat:= [0,1,4]
theorem cofHA_ev (N:Nat) (p q:List D):evFn Tryz.prog cofHAT N cofHAK Tryz.f166 rb [⟨sd (.sl 122),p⟩,⟨.one (.c (.fn 287 [.cptr [si,si] 0])),q⟩]=some (bo,
 ob (leI 0 (ixF (fun k=>ixfHAC (.l [[gd ((gd q 0).rows.getD 0 []) 0]]) (sub ((gd p 0).rows.getD k []) 0 2)) 0 (gd p 0).rows.length))):=by kernel_rfl
def cofHAE:Ent:=(166,e2 (sd (.sl 122)) (.one (.c (.fn 287 [.cptr [si,si] 0]))) fun p q=>(⟨rb,[.b (anyS (fun rr=>ixfHAC (gd q 0) (sub rr 0 2)) (gd p 0))]⟩,true))
theorem cofHA_ok:EntOk Tryz.prog cofHAE:=e2_ok fun p q h=>evFn_sound (N:=0) (ks:=cofHAK) (key:=bo) cofHAT_ok (enters Tryz.func166) Tryz.func166 fun hw=>by
 rw [cofHA_ev]
 refine congrArg (fun x=>some (bo,ob x)) ?_
 exact (ixF_any (fun k=>ixfHAC (gd q 0) (sub ((gd p 0).rows.getD k []) 0 2)) (gd p 0).rows.length 0).trans (by simp only [Nat.zero_add]; rfl)
abbrev i_haveAnyT:FuncId→List T→Option (T × Bool):=find [cofHAE]
theorem i_haveAnyT_ok:CallOk Tryz.prog i_haveAnyT:=find_ok (fC ⟨cofHA_ok,fN⟩)
abbrev i_haveAnyK:List Nat:= [0,1,3,4]
theorem i_haveAny_ev (N:Nat) (p q:List D):evFn Tryz.prog i_haveAnyT N i_haveAnyK Tryz.f204 rb [⟨sd (.sl 122),p⟩,⟨ag rIRange,q⟩]=some (bo,
 ob (anyS (fun rr=>ixfHAC (.l [[.l [sub q 0 2]]]) (sub rr 0 2)) (gd p 0))):=by kernel_rfl
def haveAnyB (z:D) (q:List D):Bool:=(List.range z.rows.length).any fun k=>i_meetsF q (sub (z.rows.getD k []) 0 2)
def i_haveAnyE:Ent:=(204,e2 (sd (.sl 122)) (ag rIRange) fun p q=>(⟨rb,[.b (haveAnyB (gd p 0) q)]⟩,true))
theorem i_haveAny_ok:EntOk Tryz.prog i_haveAnyE:=e2_ok fun p q h=>evFn_sound (N:=0) (ks:=i_haveAnyK) (key:=bo) i_haveAnyT_ok (enters Tryz.func204) Tryz.func204 fun hw=>by
 rw [i_haveAny_ev]
 rfl
abbrev s_l10TouchT:FuncId→List T→Option (T × Bool):=find [s_RangeMeetE]
theorem s_l10TouchT_ok:CallOk Tryz.prog s_l10TouchT:=find_ok (fC ⟨s_RangeMeet_ok,fN⟩)
abbrev s_l10TouchK:List Nat:= [0,1,3,4,5,7,11,23]
noncomputable def s_l10TouchL0 (N:Nat) (p q:List D):List D→Out:=loopOf Tryz.prog s_l10TouchT N s_l10TouchK Tryz.f203 rb [⟨sd (.sl 122),p⟩,⟨ag rIRange,q⟩] 0
theorem s_l10TouchR0 (N:Nat) (p q:List D) (x0 x1 x2 x3 x4 x5 x6 x7:D):(s_l10TouchL0 N p q) [x0,x1,x2,x3,x4,x5,x6,x7] =
 bif ltI x5.int (x0.rows.length:Int) then nd ((inRange x5.int x0.rows.length)&&true) (nd (((inRange x5.int x0.rows.length)&&true)&&(sameP [[gd (sub (meetR (sub (x0.rows.getD x5.int.toNat []) 0 2) [x6,x7]) 0 3) 2],[.i 0],[gd (sub (meetR (sub (x0.rows.getD x5.int.toNat []) 0 2) [x6,x7]) 0 3) 2],[gd (sub (meetR (sub (x0.rows.getD x5.int.toNat []) 0 2) [x6,x7]) 0 3) 0,gd (sub (meetR (sub (x0.rows.getD x5.int.toNat []) 0 2) [x6,x7]) 0 3) 1],[gd (sub (meetR (sub (x0.rows.getD x5.int.toNat []) 0 2) [x6,x7]) 0 3) 0,gd (sub (meetR (sub (x0.rows.getD x5.int.toNat []) 0 2) [x6,x7]) 0 3) 1,gd (sub (meetR (sub (x0.rows.getD x5.int.toNat []) 0 2) [x6,x7]) 0 3) 2],[gd (sub (meetR (sub (x0.rows.getD x5.int.toNat []) 0 2) [x6,x7]) 0 3) 0,gd (sub (meetR (sub (x0.rows.getD x5.int.toNat []) 0 2) [x6,x7]) 0 3) 1,gd (sub (meetR (sub (x0.rows.getD x5.int.toNat []) 0 2) [x6,x7]) 0 3) 2],[x6,x7],[gd (x0.rows.getD x5.int.toNat []) 0,gd (x0.rows.getD x5.int.toNat []) 1],[.l [[.l x0.rows,.i x5.int]]],[x5],[x0],[x0],[x1,x2],[x3],[x4],[x5],[.b (ltI x5.int (x0.rows.length:Int))],[x6,x7],[gd (sub (meetR (sub (x0.rows.getD x5.int.toNat []) 0 2) [x6,x7]) 0 3) 0,gd (sub (meetR (sub (x0.rows.getD x5.int.toNat []) 0 2) [x6,x7]) 0 3) 1]] [[gd (sub (meetR (sub (x0.rows.getD x5.int.toNat []) 0 2) [x6,x7]) 0 3) 2],[.i 0],[gd (sub (meetR (sub (x0.rows.getD x5.int.toNat []) 0 2) [x6,x7]) 0 3) 2],[gd (sub (meetR (sub (x0.rows.getD x5.int.toNat []) 0 2) [x6,x7]) 0 3) 0,gd (sub (meetR (sub (x0.rows.getD x5.int.toNat []) 0 2) [x6,x7]) 0 3) 1],[gd (sub (meetR (sub (x0.rows.getD x5.int.toNat []) 0 2) [x6,x7]) 0 3) 0,gd (sub (meetR (sub (x0.rows.getD x5.int.toNat []) 0 2) [x6,x7]) 0 3) 1,gd (sub (meetR (sub (x0.rows.getD x5.int.toNat []) 0 2) [x6,x7]) 0 3) 2],[gd (sub (meetR (sub (x0.rows.getD x5.int.toNat []) 0 2) [x6,x7]) 0 3) 0,gd (sub (meetR (sub (x0.rows.getD x5.int.toNat []) 0 2) [x6,x7]) 0 3) 1,gd (sub (meetR (sub (x0.rows.getD x5.int.toNat []) 0 2) [x6,x7]) 0 3) 2],[x6,x7],[gd (x0.rows.getD x5.int.toNat []) 0,gd (x0.rows.getD x5.int.toNat []) 1],[.l [[.l x0.rows,.i x5.int]]],[x5],[x0],[x0],[x1,x2],[x3],[x4],[x5],[.b (ltI x5.int (x0.rows.length:Int))],[x6,x7],[gd (sub (meetR (sub (x0.rows.getD x5.int.toNat []) 0 2) [x6,x7]) 0 3) 0,gd (sub (meetR (sub (x0.rows.getD x5.int.toNat []) 0 2) [x6,x7]) 0 3) 1]])) (nd (((inRange x5.int x0.rows.length)&&true)&&(sameP [[gd (sub (meetR (sub (x0.rows.getD x5.int.toNat []) 0 2) [x6,x7]) 0 3) 2],[.i 0],[gd (sub (meetR (sub (x0.rows.getD x5.int.toNat []) 0 2) [x6,x7]) 0 3) 2],[gd (sub (meetR (sub (x0.rows.getD x5.int.toNat []) 0 2) [x6,x7]) 0 3) 0,gd (sub (meetR (sub (x0.rows.getD x5.int.toNat []) 0 2) [x6,x7]) 0 3) 1],[gd (sub (meetR (sub (x0.rows.getD x5.int.toNat []) 0 2) [x6,x7]) 0 3) 0,gd (sub (meetR (sub (x0.rows.getD x5.int.toNat []) 0 2) [x6,x7]) 0 3) 1,gd (sub (meetR (sub (x0.rows.getD x5.int.toNat []) 0 2) [x6,x7]) 0 3) 2],[gd (sub (meetR (sub (x0.rows.getD x5.int.toNat []) 0 2) [x6,x7]) 0 3) 0,gd (sub (meetR (sub (x0.rows.getD x5.int.toNat []) 0 2) [x6,x7]) 0 3) 1,gd (sub (meetR (sub (x0.rows.getD x5.int.toNat []) 0 2) [x6,x7]) 0 3) 2],[x6,x7],[gd (x0.rows.getD x5.int.toNat []) 0,gd (x0.rows.getD x5.int.toNat []) 1],[.l [[.l x0.rows,.i x5.int]]],[x5],[x0],[x0],[x1,x2],[x3],[x4],[x5],[.b (ltI x5.int (x0.rows.length:Int))],[x6,x7],[gd (sub (meetR (sub (x0.rows.getD x5.int.toNat []) 0 2) [x6,x7]) 0 3) 0,gd (sub (meetR (sub (x0.rows.getD x5.int.toNat []) 0 2) [x6,x7]) 0 3) 1]] [[gd (sub (meetR (sub (x0.rows.getD x5.int.toNat []) 0 2) [x6,x7]) 0 3) 2],[.i 0],[gd (sub (meetR (sub (x0.rows.getD x5.int.toNat []) 0 2) [x6,x7]) 0 3) 2],[gd (sub (meetR (sub (x0.rows.getD x5.int.toNat []) 0 2) [x6,x7]) 0 3) 0,gd (sub (meetR (sub (x0.rows.getD x5.int.toNat []) 0 2) [x6,x7]) 0 3) 1],[gd (sub (meetR (sub (x0.rows.getD x5.int.toNat []) 0 2) [x6,x7]) 0 3) 0,gd (sub (meetR (sub (x0.rows.getD x5.int.toNat []) 0 2) [x6,x7]) 0 3) 1,gd (sub (meetR (sub (x0.rows.getD x5.int.toNat []) 0 2) [x6,x7]) 0 3) 2],[gd (sub (meetR (sub (x0.rows.getD x5.int.toNat []) 0 2) [x6,x7]) 0 3) 0,gd (sub (meetR (sub (x0.rows.getD x5.int.toNat []) 0 2) [x6,x7]) 0 3) 1,gd (sub (meetR (sub (x0.rows.getD x5.int.toNat []) 0 2) [x6,x7]) 0 3) 2],[x6,x7],[gd (x0.rows.getD x5.int.toNat []) 0,gd (x0.rows.getD x5.int.toNat []) 1],[.l [[.l x0.rows,.i x5.int]]],[x5],[x0],[x0],[x1,x2],[x3],[x4],[x5],[.b (ltI x5.int (x0.rows.length:Int))],[x6,x7],[gd (sub (meetR (sub (x0.rows.getD x5.int.toNat []) 0 2) [x6,x7]) 0 3) 0,gd (sub (meetR (sub (x0.rows.getD x5.int.toNat []) 0 2) [x6,x7]) 0 3) 1]])) (nd (((inRange x5.int x0.rows.length)&&true)&&(sameP [[gd (sub (meetR (sub (x0.rows.getD x5.int.toNat []) 0 2) [x6,x7]) 0 3) 2],[.i 0],[gd (sub (meetR (sub (x0.rows.getD x5.int.toNat []) 0 2) [x6,x7]) 0 3) 2],[gd (sub (meetR (sub (x0.rows.getD x5.int.toNat []) 0 2) [x6,x7]) 0 3) 0,gd (sub (meetR (sub (x0.rows.getD x5.int.toNat []) 0 2) [x6,x7]) 0 3) 1],[gd (sub (meetR (sub (x0.rows.getD x5.int.toNat []) 0 2) [x6,x7]) 0 3) 0,gd (sub (meetR (sub (x0.rows.getD x5.int.toNat []) 0 2) [x6,x7]) 0 3) 1,gd (sub (meetR (sub (x0.rows.getD x5.int.toNat []) 0 2) [x6,x7]) 0 3) 2],[gd (sub (meetR (sub (x0.rows.getD x5.int.toNat []) 0 2) [x6,x7]) 0 3) 0,gd (sub (meetR (sub (x0.rows.getD x5.int.toNat []) 0 2) [x6,x7]) 0 3) 1,gd (sub (meetR (sub (x0.rows.getD x5.int.toNat []) 0 2) [x6,x7]) 0 3) 2],[x6,x7],[gd (x0.rows.getD x5.int.toNat []) 0,gd (x0.rows.getD x5.int.toNat []) 1],[.l [[.l x0.rows,.i x5.int]]],[x5],[x0],[x0],[x1,x2],[x3],[x4],[x5],[.b (ltI x5.int (x0.rows.length:Int))],[x6,x7],[gd (sub (meetR (sub (x0.rows.getD x5.int.toNat []) 0 2) [x6,x7]) 0 3) 0,gd (sub (meetR (sub (x0.rows.getD x5.int.toNat []) 0 2) [x6,x7]) 0 3) 1]] [[gd (sub (meetR (sub (x0.rows.getD x5.int.toNat []) 0 2) [x6,x7]) 0 3) 2],[.i 0],[gd (sub (meetR (sub (x0.rows.getD x5.int.toNat []) 0 2) [x6,x7]) 0 3) 2],[gd (sub (meetR (sub (x0.rows.getD x5.int.toNat []) 0 2) [x6,x7]) 0 3) 0,gd (sub (meetR (sub (x0.rows.getD x5.int.toNat []) 0 2) [x6,x7]) 0 3) 1],[gd (sub (meetR (sub (x0.rows.getD x5.int.toNat []) 0 2) [x6,x7]) 0 3) 0,gd (sub (meetR (sub (x0.rows.getD x5.int.toNat []) 0 2) [x6,x7]) 0 3) 1,gd (sub (meetR (sub (x0.rows.getD x5.int.toNat []) 0 2) [x6,x7]) 0 3) 2],[gd (sub (meetR (sub (x0.rows.getD x5.int.toNat []) 0 2) [x6,x7]) 0 3) 0,gd (sub (meetR (sub (x0.rows.getD x5.int.toNat []) 0 2) [x6,x7]) 0 3) 1,gd (sub (meetR (sub (x0.rows.getD x5.int.toNat []) 0 2) [x6,x7]) 0 3) 2],[x6,x7],[gd (x0.rows.getD x5.int.toNat []) 0,gd (x0.rows.getD x5.int.toNat []) 1],[.l [[.l x0.rows,.i x5.int]]],[x5],[x0],[x0],[x1,x2],[x3],[x4],[x5],[.b (ltI x5.int (x0.rows.length:Int))],[x6,x7],[gd (sub (meetR (sub (x0.rows.getD x5.int.toNat []) 0 2) [x6,x7]) 0 3) 0,gd (sub (meetR (sub (x0.rows.getD x5.int.toNat []) 0 2) [x6,x7]) 0 3) 1]])) (nd (((inRange x5.int x0.rows.length)&&true)&&(sameP [[gd (sub (meetR (sub (x0.rows.getD x5.int.toNat []) 0 2) [x6,x7]) 0 3) 2],[.i 0],[gd (sub (meetR (sub (x0.rows.getD x5.int.toNat []) 0 2) [x6,x7]) 0 3) 2],[gd (sub (meetR (sub (x0.rows.getD x5.int.toNat []) 0 2) [x6,x7]) 0 3) 0,gd (sub (meetR (sub (x0.rows.getD x5.int.toNat []) 0 2) [x6,x7]) 0 3) 1],[gd (sub (meetR (sub (x0.rows.getD x5.int.toNat []) 0 2) [x6,x7]) 0 3) 0,gd (sub (meetR (sub (x0.rows.getD x5.int.toNat []) 0 2) [x6,x7]) 0 3) 1,gd (sub (meetR (sub (x0.rows.getD x5.int.toNat []) 0 2) [x6,x7]) 0 3) 2],[gd (sub (meetR (sub (x0.rows.getD x5.int.toNat []) 0 2) [x6,x7]) 0 3) 0,gd (sub (meetR (sub (x0.rows.getD x5.int.toNat []) 0 2) [x6,x7]) 0 3) 1,gd (sub (meetR (sub (x0.rows.getD x5.int.toNat []) 0 2) [x6,x7]) 0 3) 2],[x6,x7],[gd (x0.rows.getD x5.int.toNat []) 0,gd (x0.rows.getD x5.int.toNat []) 1],[.l [[.l x0.rows,.i x5.int]]],[x5],[x0],[x0],[x1,x2],[x3],[x4],[x5],[.b (ltI x5.int (x0.rows.length:Int))],[x6,x7],[gd (sub (meetR (sub (x0.rows.getD x5.int.toNat []) 0 2) [x6,x7]) 0 3) 0,gd (sub (meetR (sub (x0.rows.getD x5.int.toNat []) 0 2) [x6,x7]) 0 3) 1]] [[gd (sub (meetR (sub (x0.rows.getD x5.int.toNat []) 0 2) [x6,x7]) 0 3) 2],[.i 0],[gd (sub (meetR (sub (x0.rows.getD x5.int.toNat []) 0 2) [x6,x7]) 0 3) 2],[gd (sub (meetR (sub (x0.rows.getD x5.int.toNat []) 0 2) [x6,x7]) 0 3) 0,gd (sub (meetR (sub (x0.rows.getD x5.int.toNat []) 0 2) [x6,x7]) 0 3) 1],[gd (sub (meetR (sub (x0.rows.getD x5.int.toNat []) 0 2) [x6,x7]) 0 3) 0,gd (sub (meetR (sub (x0.rows.getD x5.int.toNat []) 0 2) [x6,x7]) 0 3) 1,gd (sub (meetR (sub (x0.rows.getD x5.int.toNat []) 0 2) [x6,x7]) 0 3) 2],[gd (sub (meetR (sub (x0.rows.getD x5.int.toNat []) 0 2) [x6,x7]) 0 3) 0,gd (sub (meetR (sub (x0.rows.getD x5.int.toNat []) 0 2) [x6,x7]) 0 3) 1,gd (sub (meetR (sub (x0.rows.getD x5.int.toNat []) 0 2) [x6,x7]) 0 3) 2],[x6,x7],[gd (x0.rows.getD x5.int.toNat []) 0,gd (x0.rows.getD x5.int.toNat []) 1],[.l [[.l x0.rows,.i x5.int]]],[x5],[x0],[x0],[x1,x2],[x3],[x4],[x5],[.b (ltI x5.int (x0.rows.length:Int))],[x6,x7],[gd (sub (meetR (sub (x0.rows.getD x5.int.toNat []) 0 2) [x6,x7]) 0 3) 0,gd (sub (meetR (sub (x0.rows.getD x5.int.toNat []) 0 2) [x6,x7]) 0 3) 1]])) (bif (gd (sub (meetR (sub (x0.rows.getD x5.int.toNat []) 0 2) [x6,x7]) 0 3) 2).bool then ob true
 else nx [x0,x1,x2,x3,x4,.i (w64 (x5.int+1)),x6,x7])))))
 else ex 0 [x0,x1,x2,x3,x4,x5,x6,x7]:=by kernel_rfl
theorem s_l10Touch_ev (N:Nat) (p q:List D):evFn Tryz.prog s_l10TouchT N s_l10TouchK Tryz.f203 rb [⟨sd (.sl 122),p⟩,⟨ag rIRange,q⟩]=some (bo,
 (let o0:=iter (s_l10TouchL0 N p q) N [gd p 0,gd q 0,gd q 1,.i 0,.i 0,.i 0,gd q 0,gd q 1]
  nd o0.isSome (bif o0.code==1 then some (1,o0.pay)
  else nd (o0.code==2) (ob false)))):=by kernel_rfl
def touchB (z:D) (q:List D):Bool:= !(List.range z.rows.length).all fun k => !meetB (sub (z.rows.getD k []) 0 2) q
def s_l10TouchE:Ent:=(203,e2 (sd (.sl 122)) (ag rIRange) fun p q=>(⟨rb,[.b (touchB (gd p 0) q)]⟩,true))
theorem s_l10Touch_ok:EntOk Tryz.prog s_l10TouchE:=e2_ok fun p q h=>evFn_sound (N:=(gd p 0).rows.length+1) (ks:=s_l10TouchK) (key:=bo) s_l10TouchT_ok (enters Tryz.func203) Tryz.func203 fun hw=>by
 rw [s_l10Touch_ev]
 have hl:=wt_sl (hw ⟨sd (.sl 122),p⟩ (by simp))
 have e:=for_loop (L:=s_l10TouchL0 ((gd p 0).rows.length+1) p q) (fun k => [gd p 0,gd q 0,gd q 1,.i 0,.i 0,.i (k:Int),gd q 0,gd q 1]) (gd p 0).rows.length (fun k => !meetB (sub ((gd p 0).rows.getD k []) 0 2) q) [.b true] 0 (fun k hk=>?_) ?_ (N:=(gd p 0).rows.length+1) (by omega)
 ·simp only [Int.natCast_zero] at e
  rw [e]
  unfold touchB
  cases (List.range (gd p 0).rows.length).all fun k => !meetB (sub ((gd p 0).rows.getD k []) 0 2) q <;> rfl
 ·show s_l10TouchL0 _ p q [_,_,_,_,_,.i (k:Int),_,_]=_
  rw [s_l10TouchR0]
  simp only [int_i,c_lt hk,Bool.and_true,nd_ix hk,sameP_self,w64_succ hk hl,Int.toNat_natCast]
  have hm:(gd (sub (meetR (sub ((gd p 0).rows.getD k []) 0 2) [gd q 0,gd q 1]) 0 3) 2).bool=meetB (sub ((gd p 0).rows.getD k []) 0 2) q:=meetR_2 _ _
  rw [hm]
  cases meetB (sub ((gd p 0).rows.getD k []) 0 2) q <;> rfl
 ·show s_l10TouchL0 _ p q [_,_,_,_,_,.i ((gd p 0).rows.length:Int),_,_]=_
  rw [s_l10TouchR0]
  simp only [int_i,c_nlt]
abbrev i_freeT:FuncId→List T→Option (T × Bool):=find [i_haveAllE,i_haveAnyE]
theorem i_freeT_ok:CallOk Tryz.prog i_freeT:=find_ok (fC ⟨i_haveAll_ok,fC ⟨i_haveAny_ok,fN⟩⟩)
abbrev i_freeK:List Nat:= [0,1,2,3,4]
theorem i_free_ev (N:Nat) (p q:List D):evFn Tryz.prog i_freeT N i_freeK Tryz.f86 rb [⟨ag rIShard,p⟩,⟨ag rIRange,q⟩]=some (bo,
 bif haveAll (gd p 1) (sub q 0 2) then ob (!(haveAnyB (gd p 2) (sub q 0 2)))
 else ob false):=by kernel_rfl
def freeF (p q:List D):Bool:=haveAll (gd p 1) q && !haveAnyB (gd p 2) q
def i_freeE:Ent:=(86,e2 (ag rIShard) (ag rIRange) fun p q=>(⟨rb,[.b (freeF p q)]⟩,true))
theorem i_free_ok:EntOk Tryz.prog i_freeE:=e2_ok fun p q h=>evFn_sound (N:=0) (ks:=i_freeK) (key:=bo) i_freeT_ok (enters Tryz.func86) Tryz.func86 fun hw=>by
 rw [i_free_ev]
 show some (bo,bif haveAll (gd p 1) q then ob (!haveAnyB (gd p 2) q) else ob false)=_
 unfold freeF
 cases haveAll (gd p 1) q <;> rfl
abbrev s_l13FreeT:FuncId→List T→Option (T × Bool):=find [s_RangesHaveE,s_l10TouchE]
theorem s_l13FreeT_ok:CallOk Tryz.prog s_l13FreeT:=find_ok (fC ⟨s_RangesHave_ok,fC ⟨s_l10Touch_ok,fN⟩⟩)
abbrev s_l13FreeK:List Nat:= [0,1,2,3,4]
theorem s_l13Free_ev (N:Nat) (p q:List D):evFn Tryz.prog s_l13FreeT N s_l13FreeK Tryz.f85 rb [⟨ag rIShard,p⟩,⟨ag rIRange,q⟩]=some (bo,
 bif rangesHave (gd p 1) (sub q 0 2) then ob (!(touchB (gd p 2) (sub q 0 2)))
 else ob false):=by kernel_rfl
def freeS (p q:List D):Bool:=rangesHave (gd p 1) q && !touchB (gd p 2) q
theorem meets_comm (p q:List D):i_meetsF p q=i_meetsF q p:=by
 unfold i_meetsF
 cases ltI (gd p 0).int (gd q 1).int <;> cases ltI (gd q 0).int (gd p 1).int <;> rfl
theorem touch_same {z:D} {q:List D} (hz:rangesOk z=true) (hq:rangeOk q=true):touchB z q=haveAnyB z q:=by
 unfold touchB haveAnyB
 rw [Bool.eq_iff_iff]
 simp only [Bool.not_eq_true',← Bool.not_eq_true,List.all_eq_true,List.any_eq_true,List.mem_range]
 have hm:∀ k,k<z.rows.length→meetB (sub (z.rows.getD k []) 0 2) q=i_meetsF q (sub (z.rows.getD k []) 0 2):=fun k hk=>by
  rw [meetB_of (ranges_at hz hk) hq,meets_comm]
 constructor
 ·intro h
  refine Classical.byContradiction fun hn=>h fun k hk hc=>hn ⟨k,hk,?_⟩
  rw [← hm k hk]; exact hc
 ·rintro ⟨k,hk,hc⟩ h
  refine h k hk ?_
  rw [hm k hk]; exact hc
theorem free_same {p q:List D} (h1:rangesOk (gd p 1)=true) (h2:rangesOk (gd p 2)=true) (hq:rangeOk q=true):freeS p q=freeF p q:=by
 unfold freeS freeF
 rw [touch_same h2 hq,have_same h1 hq]
def s_l13FreeE:Ent:=(85,e2 (ag rIShard) (ag rIRange) fun p q=>(⟨rb,[.b (freeS p q)]⟩,true))
theorem s_l13Free_ok:EntOk Tryz.prog s_l13FreeE:=e2_ok fun p q h=>evFn_sound (N:=0) (ks:=s_l13FreeK) (key:=bo) s_l13FreeT_ok (enters Tryz.func85) Tryz.func85 fun hw=>by
 rw [s_l13Free_ev]
 show some (bo,bif rangesHave (gd p 1) q then ob (!touchB (gd p 2) q) else ob false)=_
 unfold freeS
 cases rangesHave (gd p 1) q <;> rfl
abbrev i_TownFreeT:FuncId→List T→Option (T × Bool):=find [i_TownOkE,i_isKeyE,i_oneE,i_freeE]
theorem i_TownFreeT_ok:CallOk Tryz.prog i_TownFreeT:=find_ok (fC ⟨i_TownOk_ok,fC ⟨i_isKey_ok,fC ⟨i_one_ok,fC ⟨i_free_ok,fN⟩⟩⟩⟩)
abbrev i_TownFreeK:List Nat:= [0,1,2,4,5,6,7,16,19,20,21,22,29,1000016,1000022,1000029]
noncomputable def i_TownFreeL0 (N:Nat) (p q:List D):List D→Out:=loopOf Tryz.prog i_TownFreeT N i_TownFreeK Tryz.f31 (.one (.c (.own (0,0) true 3))) [⟨ag rITown,p⟩,⟨ri,q⟩] 0
theorem i_TownFreeR0 (N:Nat) (p q:List D) (x0 x1 x2 x3 x4 x5 x6 x7 x8 x9 x10 x11 x12 x13 x14 x15 x16 x17 x18 x19 x20 x21 x22 x23 x24 x25 x26 x27 x28 x29 x30 x31 x32 x33 x34 x35 x36:D):(i_TownFreeL0 N p q) [x0,x1,x2,x3,x4,x5,x6,x7,x8,x9,x10,x11,x12,x13,x14,x15,x16,x17,x18,x19,x20,x21,x22,x23,x24,x25,x26,x27,x28,x29,x30,x31,x32,x33,x34,x35,x36] =
 bif ltI x21.int x20.int then nd (inRange x21.int x19.rows.length) (bif freeF (sub (x19.rows.getD x21.int.toNat []) 0 9) [x15,.i (w64 (x15.int+1))] then nd (lenOk (x18.rows ++ [[x21]])&&true) (nx [x0,x1,x2,x3,x4,x5,x6,x7,x8,x9,x10,x11,x12,x13,x14,x15,x16,x17,.l (x18.rows ++ [[x21]]),x19,x20,.i (w64 (x21.int+1)),x22,x23,x24,x25,x26,x27,x28,x29,x30,x31,x32,x33,x34,x35,x36])
 else nx [x0,x1,x2,x3,x4,x5,x6,x7,x8,x9,x10,x11,x12,x13,x14,x15,x16,x17,x18,x19,x20,.i (w64 (x21.int+1)),x22,x23,x24,x25,x26,x27,x28,x29,x30,x31,x32,x33,x34,x35,x36])
 else ex 0 [x0,x1,x2,x3,x4,x5,x6,x7,x8,x9,x10,x11,x12,x13,x14,x15,x16,x17,x18,x19,x20,x21,x22,x23,x24,x25,x26,x27,x28,x29,x30,x31,x32,x33,x34,x35,x36]:=by kernel_rfl
noncomputable def i_TownFrees0 (N:Nat) (p q:List D):Out:=let o0:Out:=iter (i_TownFreeL0 N p q) N [gd p 0,gd p 1,gd p 2,gd p 3,gd p 4,gd p 5,gd p 6,gd p 7,gd p 8,gd p 9,gd p 10,gd p 11,gd p 12,gd p 13,gd p 14,gd q 0,.i 0,.l [],.l [],gd p 9,.i ((gd p 9).rows.length:Int),.i 0,gd p 0,gd p 1,gd p 2,gd p 3,gd p 4,gd p 5,gd p 6,gd p 7,gd p 8,gd p 9,gd p 10,gd p 11,gd p 12,gd p 13,gd p 14]; nd o0.isSome (nd (o0.code==2) (some (1,[gd o0.pay 18])))
noncomputable def i_TownFrees1 (N:Nat) (p q:List D):Out:=bif !(townOk (sub p 0 15)) then some (1,[.l []]) else bif !(inB (gd q 0).int (0) (999)) then some (1,[.l []]) else (i_TownFrees0 N p q)
theorem i_TownFree_ev (N:Nat) (p q:List D):evFn Tryz.prog i_TownFreeT N i_TownFreeK Tryz.f31 (.one (.c (.own (0,0) true 3))) [⟨ag rITown,p⟩,⟨ri,q⟩]=some (bo,nd (townSmall (sub p 0 15)) (i_TownFrees1 N p q)):=by kernel_rfl
def freeRows (C:Nat→Bool) (n:Nat):List (List D):=((List.range n).filter C).map fun (k:Nat) => [D.i (k:Int)]
theorem freeRows_succ (C:Nat→Bool) (k:Nat):freeRows C (k+1)=bif C k then freeRows C k ++ [[.i (k:Int)]] else freeRows C k:=by
 unfold freeRows
 rw [List.range_succ,List.filter_append,List.map_append]
 cases h:C k <;> simp [List.filter,h]
theorem freeRows_le (C:Nat→Bool) (k:Nat):(freeRows C k).length≤k:=by
 unfold freeRows
 rw [List.length_map]
 exact Nat.le_trans (List.length_filter_le _ _) (by simp)
theorem freeRows_congr {C C':Nat→Bool} {n:Nat} (h:∀ k,k<n→C k=C' k):freeRows C n=freeRows C' n:=by
 unfold freeRows
 rw [List.filter_congr fun k hk=>h k (List.mem_range.1 hk)]
theorem town_n {p:List D} (h:townOk p=true):(gd p 9).rows.length≤4:=by
 unfold townOk at h
 simp only [Bool.and_eq_true] at h
 have:=h.2.1
 simp only [inB,Bool.and_eq_true,decide_eq_true_eq] at this
 omega
theorem town_shard {p:List D} (h:townOk p=true) {k:Nat} (hk:k<(gd p 9).rows.length):shardOk (sub ((gd p 9).rows.getD k []) 0 9)=true:=by
 unfold townOk at h
 simp only [Bool.and_eq_true] at h
 obtain ⟨_,_,_,_,_,_,_,_,_,_,h,_⟩:=h
 unfold shardA at h
 have:=List.all_eq_true.1 h k (List.mem_range.2 hk)
 unfold townC0 at this
 simp only [Bool.and_eq_true] at this
 exact this.1
theorem shard_own {p:List D} (h:shardOk p=true):rangesOk (gd p 1)=true∧rangesOk (gd p 2)=true∧storeOk (gd p 3)=true:=by
 unfold shardOk at h
 simp only [Bool.and_eq_true] at h
 obtain ⟨_,a,b,c,_⟩:=h
 exact ⟨a,b,c⟩
theorem key_rangeOk {q:List D} (h:inB (gd q 0).int 0 999=true):rangeOk [gd q 0,.i (w64 ((gd q 0).int+1))]=true:=by
 simp only [inB,Bool.and_eq_true,decide_eq_true_eq] at h
 exact one_rangeOk (r:=q) (by omega) (by omega)
def townFreeCF (p q:List D) (k:Nat):Bool:=freeF (sub ((gd p 9).rows.getD k []) 0 9) [gd q 0,.i (w64 ((gd q 0).int+1))]
def townFree (p q:List D):D:=.l (bif townOk p&&inB (gd q 0).int 0 999 then freeRows (townFreeCF p q) (gd p 9).rows.length else [])
theorem i_TownFreeI0 (p q:List D) (hn:(gd p 9).rows.length≤4):iter (i_TownFreeL0 ((gd p 9).rows.length+1) p q) ((gd p 9).rows.length+1) [gd p 0,gd p 1,gd p 2,gd p 3,gd p 4,gd p 5,gd p 6,gd p 7,gd p 8,gd p 9,gd p 10,gd p 11,gd p 12,gd p 13,gd p 14,gd q 0,.i 0,.l [],.l [],gd p 9,.i ((gd p 9).rows.length:Int),.i 0,gd p 0,gd p 1,gd p 2,gd p 3,gd p 4,gd p 5,gd p 6,gd p 7,gd p 8,gd p 9,gd p 10,gd p 11,gd p 12,gd p 13,gd p 14]=some (2,[gd p 0,gd p 1,gd p 2,gd p 3,gd p 4,gd p 5,gd p 6,gd p 7,gd p 8,gd p 9,gd p 10,gd p 11,gd p 12,gd p 13,gd p 14,gd q 0,.i 0,.l [],.l (freeRows (townFreeCF p q) (gd p 9).rows.length),gd p 9,.i ((gd p 9).rows.length:Int),.i ((gd p 9).rows.length:Int),gd p 0,gd p 1,gd p 2,gd p 3,gd p 4,gd p 5,gd p 6,gd p 7,gd p 8,gd p 9,gd p 10,gd p 11,gd p 12,gd p 13,gd p 14]):=by
 have e:=run_loop (L:=(i_TownFreeL0 ((gd p 9).rows.length+1) p q)) (fun k => [gd p 0,gd p 1,gd p 2,gd p 3,gd p 4,gd p 5,gd p 6,gd p 7,gd p 8,gd p 9,gd p 10,gd p 11,gd p 12,gd p 13,gd p 14,gd q 0,.i 0,.l [],.l (freeRows (townFreeCF p q) k),gd p 9,.i ((gd p 9).rows.length:Int),.i (k:Int),gd p 0,gd p 1,gd p 2,gd p 3,gd p 4,gd p 5,gd p 6,gd p 7,gd p 8,gd p 9,gd p 10,gd p 11,gd p 12,gd p 13,gd p 14]) (gd p 9).rows.length 0 (fun k hk=>?_) ?_ (N:=((gd p 9).rows.length+1)) (by omega)
 ·simp only [Int.natCast_zero] at e
  exact e
 ·show i_TownFreeL0 _ p q [_,_,_,_,_,_,_,_,_,_,_,_,_,_,_,_,_,_,.l (freeRows (townFreeCF p q) k),_,_,.i (k:Int),_,_,_,_,_,_,_,_,_,_,_,_,_,_,_]=_
  rw [i_TownFreeR0]
  have hlen:=freeRows_le (townFreeCF p q) k
  have hlo:lenOk (freeRows (townFreeCF p q) k ++ [[.i (k:Int)]])=true:=lenOk_t (by rw [List.length_append]; simp; omega)
  simp only [int_i,rows_l,c_lt hk,nd_ix hk,w64_succ hk (show (gd p 9).rows.length≤9223372036854775807 from by omega),Int.toNat_natCast,hlo,Bool.and_true,nd_true]
  rw [freeRows_succ]
  show (bif (townFreeCF p q) k then _ else _)=_
  cases (townFreeCF p q) k <;> rfl
 ·show i_TownFreeL0 _ p q [_,_,_,_,_,_,_,_,_,_,_,_,_,_,_,_,_,_,.l (freeRows (townFreeCF p q) (gd p 9).rows.length),_,_,.i ((gd p 9).rows.length:Int),_,_,_,_,_,_,_,_,_,_,_,_,_,_,_]=_
  rw [i_TownFreeR0]
  simp only [int_i,c_nlt]
def i_TownFreeE:Ent:=(31,e2 (ag rITown) ri fun p q=>(⟨.one (.c (.own (0,0) true 3)),[townFree p [gd q 0]]⟩,townSmall p))
theorem i_TownFree_ok:EntOk Tryz.prog i_TownFreeE:=e2_ok fun p q h=>evFn_sound (N:=(gd p 9).rows.length+1) (ks:=i_TownFreeK) (key:=bo) i_TownFreeT_ok (enters Tryz.func31) Tryz.func31 fun hw=>by
 rw [i_TownFree_ev]
 refine congrArg (fun x=>some (bo,x)) ?_
 have h:townSmall p=true:=h
 show nd (townSmall p) (i_TownFrees1 ((gd p 9).rows.length+1) p q)=some (1,[townFree p q])
 rw [h,nd_true]
 unfold i_TownFrees1 townFree
 rw [show townOk (sub p 0 15)=townOk p from rfl]
 cases ht:townOk p with
 | false=>rfl
 | true =>
  cases hk0:inB (gd q 0).int 0 999 with
  | false=>rfl
  | true =>
  simp only [Bool.not_true,cond_false,Bool.and_self,cond_true]
  rw [show i_TownFrees0 ((gd p 9).rows.length+1) p q=nd (iter (i_TownFreeL0 ((gd p 9).rows.length+1) p q) ((gd p 9).rows.length+1) [gd p 0,gd p 1,gd p 2,gd p 3,gd p 4,gd p 5,gd p 6,gd p 7,gd p 8,gd p 9,gd p 10,gd p 11,gd p 12,gd p 13,gd p 14,gd q 0,.i 0,.l [],.l [],gd p 9,.i ((gd p 9).rows.length:Int),.i 0,gd p 0,gd p 1,gd p 2,gd p 3,gd p 4,gd p 5,gd p 6,gd p 7,gd p 8,gd p 9,gd p 10,gd p 11,gd p 12,gd p 13,gd p 14]).isSome (nd (Out.code (iter (i_TownFreeL0 ((gd p 9).rows.length+1) p q) ((gd p 9).rows.length+1) [gd p 0,gd p 1,gd p 2,gd p 3,gd p 4,gd p 5,gd p 6,gd p 7,gd p 8,gd p 9,gd p 10,gd p 11,gd p 12,gd p 13,gd p 14,gd q 0,.i 0,.l [],.l [],gd p 9,.i ((gd p 9).rows.length:Int),.i 0,gd p 0,gd p 1,gd p 2,gd p 3,gd p 4,gd p 5,gd p 6,gd p 7,gd p 8,gd p 9,gd p 10,gd p 11,gd p 12,gd p 13,gd p 14])==2) (some (1,[gd (Out.pay (iter (i_TownFreeL0 ((gd p 9).rows.length+1) p q) ((gd p 9).rows.length+1) [gd p 0,gd p 1,gd p 2,gd p 3,gd p 4,gd p 5,gd p 6,gd p 7,gd p 8,gd p 9,gd p 10,gd p 11,gd p 12,gd p 13,gd p 14,gd q 0,.i 0,.l [],.l [],gd p 9,.i ((gd p 9).rows.length:Int),.i 0,gd p 0,gd p 1,gd p 2,gd p 3,gd p 4,gd p 5,gd p 6,gd p 7,gd p 8,gd p 9,gd p 10,gd p 11,gd p 12,gd p 13,gd p 14])) 18]))) from by kernel_rfl]
  rw [i_TownFreeI0 p q (town_n ht)]
  rfl
abbrev s_TownFreeT:FuncId→List T→Option (T × Bool):=find [s_TownOkE,s_l10KeyE,s_l10OneE,s_l13FreeE]
theorem s_TownFreeT_ok:CallOk Tryz.prog s_TownFreeT:=find_ok (fC ⟨s_TownOk_ok,fC ⟨s_l10Key_ok,fC ⟨s_l10One_ok,fC ⟨s_l13Free_ok,fN⟩⟩⟩⟩)
abbrev s_TownFreeK:List Nat:= [0,1,2,4,5,6,15,21,31,1000015,1000021,1000031]
noncomputable def s_TownFreeL0 (N:Nat) (p q:List D):List D→Out:=loopOf Tryz.prog s_TownFreeT N s_TownFreeK Tryz.f30 (.one (.c (.own (0,0) true 3))) [⟨ag rITown,p⟩,⟨ri,q⟩] 0
theorem s_TownFreeR0 (N:Nat) (p q:List D) (x0 x1 x2 x3 x4 x5 x6 x7 x8 x9 x10 x11 x12 x13 x14 x15 x16 x17 x18 x19 x20 x21 x22 x23 x24 x25 x26 x27 x28 x29 x30 x31 x32 x33 x34:D):(s_TownFreeL0 N p q) [x0,x1,x2,x3,x4,x5,x6,x7,x8,x9,x10,x11,x12,x13,x14,x15,x16,x17,x18,x19,x20,x21,x22,x23,x24,x25,x26,x27,x28,x29,x30,x31,x32,x33,x34] =
 bif ltI x19.int (x29.rows.length:Int) then nd (inRange x19.int x29.rows.length) (bif freeS (sub (x29.rows.getD x19.int.toNat []) 0 9) [x15,.i (w64 (x15.int+1))] then nd (lenOk (x18.rows ++ [[x19]])&&true) (nx [x0,x1,x2,x3,x4,x5,x6,x7,x8,x9,x10,x11,x12,x13,x14,x15,x16,x17,.l (x18.rows ++ [[x19]]),.i (w64 (x19.int+1)),x20,x21,x22,x23,x24,x25,x26,x27,x28,x29,x30,x31,x32,x33,x34])
 else nx [x0,x1,x2,x3,x4,x5,x6,x7,x8,x9,x10,x11,x12,x13,x14,x15,x16,x17,x18,.i (w64 (x19.int+1)),x20,x21,x22,x23,x24,x25,x26,x27,x28,x29,x30,x31,x32,x33,x34])
 else ex 0 [x0,x1,x2,x3,x4,x5,x6,x7,x8,x9,x10,x11,x12,x13,x14,x15,x16,x17,x18,x19,x20,x21,x22,x23,x24,x25,x26,x27,x28,x29,x30,x31,x32,x33,x34]:=by kernel_rfl
noncomputable def s_TownFrees0 (N:Nat) (p q:List D):Out:=let o0:Out:=iter (s_TownFreeL0 N p q) N [gd p 0,gd p 1,gd p 2,gd p 3,gd p 4,gd p 5,gd p 6,gd p 7,gd p 8,gd p 9,gd p 10,gd p 11,gd p 12,gd p 13,gd p 14,gd q 0,.i 0,.l [],.l [],.i 0,gd p 0,gd p 1,gd p 2,gd p 3,gd p 4,gd p 5,gd p 6,gd p 7,gd p 8,gd p 9,gd p 10,gd p 11,gd p 12,gd p 13,gd p 14]; nd o0.isSome (nd (o0.code==2) (some (1,[gd o0.pay 18])))
noncomputable def s_TownFrees1 (N:Nat) (p q:List D):Out:=bif !(townOk (sub p 0 15)) then some (1,[.l []]) else bif !(inB (gd q 0).int (0) (999)) then some (1,[.l []]) else (s_TownFrees0 N p q)
theorem s_TownFree_ev (N:Nat) (p q:List D):evFn Tryz.prog s_TownFreeT N s_TownFreeK Tryz.f30 (.one (.c (.own (0,0) true 3))) [⟨ag rITown,p⟩,⟨ri,q⟩]=some (bo,(s_TownFrees1 N p q)):=by kernel_rfl
def townFreeCS (p q:List D) (k:Nat):Bool:=freeS (sub ((gd p 9).rows.getD k []) 0 9) [gd q 0,.i (w64 ((gd q 0).int+1))]
theorem townFree_same {p q:List D} (h:townOk p=true) (hq:inB (gd q 0).int 0 999=true) {k:Nat} (hk:k<(gd p 9).rows.length):townFreeCS p q k=townFreeCF p q k:=by
 obtain ⟨a,b,_⟩:=shard_own (town_shard h hk)
 exact free_same a b (key_rangeOk hq)
theorem s_TownFreeI0 (p q:List D) (hn:(gd p 9).rows.length≤4):iter (s_TownFreeL0 ((gd p 9).rows.length+1) p q) ((gd p 9).rows.length+1) [gd p 0,gd p 1,gd p 2,gd p 3,gd p 4,gd p 5,gd p 6,gd p 7,gd p 8,gd p 9,gd p 10,gd p 11,gd p 12,gd p 13,gd p 14,gd q 0,.i 0,.l [],.l [],.i 0,gd p 0,gd p 1,gd p 2,gd p 3,gd p 4,gd p 5,gd p 6,gd p 7,gd p 8,gd p 9,gd p 10,gd p 11,gd p 12,gd p 13,gd p 14]=some (2,[gd p 0,gd p 1,gd p 2,gd p 3,gd p 4,gd p 5,gd p 6,gd p 7,gd p 8,gd p 9,gd p 10,gd p 11,gd p 12,gd p 13,gd p 14,gd q 0,.i 0,.l [],.l (freeRows (townFreeCS p q) (gd p 9).rows.length),.i ((gd p 9).rows.length:Int),gd p 0,gd p 1,gd p 2,gd p 3,gd p 4,gd p 5,gd p 6,gd p 7,gd p 8,gd p 9,gd p 10,gd p 11,gd p 12,gd p 13,gd p 14]):=by
 have e:=run_loop (L:=(s_TownFreeL0 ((gd p 9).rows.length+1) p q)) (fun k => [gd p 0,gd p 1,gd p 2,gd p 3,gd p 4,gd p 5,gd p 6,gd p 7,gd p 8,gd p 9,gd p 10,gd p 11,gd p 12,gd p 13,gd p 14,gd q 0,.i 0,.l [],.l (freeRows (townFreeCS p q) k),.i (k:Int),gd p 0,gd p 1,gd p 2,gd p 3,gd p 4,gd p 5,gd p 6,gd p 7,gd p 8,gd p 9,gd p 10,gd p 11,gd p 12,gd p 13,gd p 14]) (gd p 9).rows.length 0 (fun k hk=>?_) ?_ (N:=((gd p 9).rows.length+1)) (by omega)
 ·simp only [Int.natCast_zero] at e
  exact e
 ·show s_TownFreeL0 _ p q [_,_,_,_,_,_,_,_,_,_,_,_,_,_,_,_,_,_,.l (freeRows (townFreeCS p q) k),.i (k:Int),_,_,_,_,_,_,_,_,_,_,_,_,_,_,_]=_
  rw [s_TownFreeR0]
  have hlen:=freeRows_le (townFreeCS p q) k
  have hlo:lenOk (freeRows (townFreeCS p q) k ++ [[.i (k:Int)]])=true:=lenOk_t (by rw [List.length_append]; simp; omega)
  simp only [int_i,rows_l,c_lt hk,nd_ix hk,w64_succ hk (show (gd p 9).rows.length≤9223372036854775807 from by omega),Int.toNat_natCast,hlo,Bool.and_true,nd_true]
  rw [freeRows_succ]
  show (bif (townFreeCS p q) k then _ else _)=_
  cases (townFreeCS p q) k <;> rfl
 ·show s_TownFreeL0 _ p q [_,_,_,_,_,_,_,_,_,_,_,_,_,_,_,_,_,_,.l (freeRows (townFreeCS p q) (gd p 9).rows.length),.i ((gd p 9).rows.length:Int),_,_,_,_,_,_,_,_,_,_,_,_,_,_,_]=_
  rw [s_TownFreeR0]
  simp only [int_i,c_nlt]
def s_TownFreeE:Ent:=(30,e2 (ag rITown) ri fun p q=>(⟨.one (.c (.own (0,0) true 3)),[townFree p [gd q 0]]⟩,true))
theorem s_TownFree_ok:EntOk Tryz.prog s_TownFreeE:=e2_ok fun p q h=>evFn_sound (N:=(gd p 9).rows.length+1) (ks:=s_TownFreeK) (key:=bo) s_TownFreeT_ok (enters Tryz.func30) Tryz.func30 fun hw=>by
 rw [s_TownFree_ev]
 refine congrArg (fun x=>some (bo,x)) ?_
 show s_TownFrees1 ((gd p 9).rows.length+1) p q=some (1,[townFree p q])
 unfold s_TownFrees1 townFree
 rw [show townOk (sub p 0 15)=townOk p from rfl]
 cases ht:townOk p with
 | false=>rfl
 | true =>
  cases hk0:inB (gd q 0).int 0 999 with
  | false=>rfl
  | true =>
  simp only [Bool.not_true,cond_false,Bool.and_self,cond_true]
  rw [show s_TownFrees0 ((gd p 9).rows.length+1) p q=nd (iter (s_TownFreeL0 ((gd p 9).rows.length+1) p q) ((gd p 9).rows.length+1) [gd p 0,gd p 1,gd p 2,gd p 3,gd p 4,gd p 5,gd p 6,gd p 7,gd p 8,gd p 9,gd p 10,gd p 11,gd p 12,gd p 13,gd p 14,gd q 0,.i 0,.l [],.l [],.i 0,gd p 0,gd p 1,gd p 2,gd p 3,gd p 4,gd p 5,gd p 6,gd p 7,gd p 8,gd p 9,gd p 10,gd p 11,gd p 12,gd p 13,gd p 14]).isSome (nd (Out.code (iter (s_TownFreeL0 ((gd p 9).rows.length+1) p q) ((gd p 9).rows.length+1) [gd p 0,gd p 1,gd p 2,gd p 3,gd p 4,gd p 5,gd p 6,gd p 7,gd p 8,gd p 9,gd p 10,gd p 11,gd p 12,gd p 13,gd p 14,gd q 0,.i 0,.l [],.l [],.i 0,gd p 0,gd p 1,gd p 2,gd p 3,gd p 4,gd p 5,gd p 6,gd p 7,gd p 8,gd p 9,gd p 10,gd p 11,gd p 12,gd p 13,gd p 14])==2) (some (1,[gd (Out.pay (iter (s_TownFreeL0 ((gd p 9).rows.length+1) p q) ((gd p 9).rows.length+1) [gd p 0,gd p 1,gd p 2,gd p 3,gd p 4,gd p 5,gd p 6,gd p 7,gd p 8,gd p 9,gd p 10,gd p 11,gd p 12,gd p 13,gd p 14,gd q 0,.i 0,.l [],.l [],.i 0,gd p 0,gd p 1,gd p 2,gd p 3,gd p 4,gd p 5,gd p 6,gd p 7,gd p 8,gd p 9,gd p 10,gd p 11,gd p 12,gd p 13,gd p 14])) 18]))) from by kernel_rfl]
  rw [s_TownFreeI0 p q (town_n ht)]
  show some (1,[D.l (freeRows (townFreeCS p q) (gd p 9).rows.length)])=some (1,[D.l (freeRows (townFreeCF p q) (gd p 9).rows.length)])
  rw [freeRows_congr (fun k hk=>townFree_same ht hk0 hk)]
end Go.Proofs.YtchceahcaaibcaaGreat
namespace Go.Proofs.YtchceahcaaibcaaGreat
set_option maxRecDepth 4096
set_option maxHeartbeats 1000000
def deepE (ds:List Nat):Ent:=(deepId,fun args=>match args with
 | [t]=>bif ds.contains (gd t.p 0).int.toNat then some (T.none_,false) else none
 | _=>none)
theorem deepE_ok {P:Program} (ds:List Nat):EntOk P (deepE ds):=by
 intro args r h
 unfold deepE at h
 simp only at h
 split at h
 ·rename_i t
  cases hc:ds.contains (gd t.p 0).int.toNat <;> rw [hc] at h <;> cases h
 ·cases h
def apartE:Ent:=(apartId,fun _=>some (T.none_,false))
theorem apartE_ok {P:Program}:EntOk P apartE:=by
 intro args r h
 unfold apartE at h
 cases h
theorem apart_ok {P:Program}:EntOk P apartE:=apartE_ok
def rDShare:List Ce:= [.d si,.own (0,1) true 122,.own (0,2) true 132,.d si]
def rDRec:List Ce:= [.d si,.d si,.d si,.d si,.own (0,1000004) true 118]
def rDCoord:List Ce:= [.own (0,1000000) true 116,.own (0,1) true 3]
def rDEvent:List Ce:= [.d si,.d si,.d si,.d si,.d si,.own (0,5) true 176,.d .bool]
def rDMove:List Ce:= [.d si,.d si,.d si,.d si,.d si,.d si,.own (0,6) true 176]
def rDAtlas:List Ce:= [.d si,.own (0,1) true 97,.d si,.d si,.d si,.d si,.d si,.d si,.own (0,8) true 176]
def rDHeld:List Ce:= [.d si,.own (0,1) true 132]
def rDShard:List Ce:= [.d si,.own (0,1) true 122,.own (0,2) true 122,.own (0,3) true 176,.own (0,4) true 138,.own (0,1000005) true 248,.own (0,6) true 3,.own (0,7) true 3,.d si]
def rDClient:List Ce:= [.d si,.d si,.d si,.own (0,3) true 132,.own (0,4) true 130,.d si,.d si,.d si,.own (0,8) true 97]
def rDLetter:List Ce:= [.d si,.d si,.d si,.d si,.d si,.d si,.d si,.d si,.d si,.d .bool,.own (0,10) true 122,.own (0,11) true 132,.own (0,12) true 176,.own (0,1000013) true 118]
def rDTown:List Ce:= [.d si,.own (0,1) true 97,.d si,.d si,.d si,.d si,.d si,.d si,.own (0,8) true 176,.own (0,1000009) true 80,.own (0,1000010) true 116,.own (0,11) true 3,.own (0,1000012) true 102,.own (0,1000013) true 85,.own (0,1000014) true 88]
noncomputable def toIntSdL (N:Nat) (p:List D):List D→Out:=loopOf Tryz.prog (find []) N [0,2,3,4,11] Tryz.f151 (.one (.c (.own (0,0) true 3))) [⟨sd (.sl 3),p⟩] 0
theorem toIntSd_rd (p:List D) (N:Nat) (z x2:D) (rows:List (List D)) (k:Int):toIntSdL N p [z,x2,.l rows,.i k]=bif decide (k<z.rows.length) then nd (inRange k z.rows.length) (nd (okInt (z.rows.getD k.toNat [])) (nd (inRange k rows.length) (nx [z,x2,.l (rows.set k.toNat (cpInt (z.rows.getD k.toNat []))),.i (w64 (k+1))]))) else ex 0 [z,x2,.l rows,.i k]:=by kernel_rfl
theorem toIntSd_ev (p:List D) (N:Nat):evFn Tryz.prog (find []) N [0,2,3,4,11] Tryz.f151 (.one (.c (.own (0,0) true 3))) [⟨sd (.sl 3),p⟩]=some (bo,nd (decide (0≤((gd p 0).rows.length:Int))&&decide (((gd p 0).rows.length:Int)=((gd p 0).rows.length:Int))&&decide (((gd p 0).rows.length:Int)≤4294967296)&&true&&true)
  (let o:=iter (toIntSdL N p) N [gd p 0,.l [],.l (List.replicate (gd p 0).rows.length [.i 0]),.i 0]
   nd o.isSome (nd (o.code==2) (some (1,[gd o.pay 2]))))):=by kernel_rfl
def toIntSdE:Ent:=(151,e1 (sd (.sl 3)) fun p=>(⟨.one (.c (.own (0,0) true 3)),[cpIntS (gd p 0)]⟩,okIntS (gd p 0)))
theorem toIntSd_ok:EntOk Tryz.prog toIntSdE:=e1_ok fun p h=>evFn_sound (N:=(gd p 0).rows.length+1) (ks:= [0,2,3,4,11]) (key:=bo) (find_ok (fN)) (enters Tryz.func151) Tryz.func151 fun hw=>by
 have h:okIntS (gd p 0)=true:=h
 simp only [okIntS,Bool.and_eq_true,decide_eq_true_eq,List.all_eq_true] at h
 rw [toIntSd_ev,fill_loop (ok:=fun r=>okInt r) (f:=fun r=>cpInt r) [.i 0] (wt_sl (hw ⟨sd (.sl 3),p⟩ (by simp))) h.2 (toIntSd_rd p _ _ _) (by omega)]
 rw [show decide (((gd p 0).rows.length:Int)≤4294967296)=true from decide_eq_true (by omega),show decide (0≤((gd p 0).rows.length:Int))=true from decide_eq_true (by omega),decide_eq_true (rfl:((gd p 0).rows.length:Int)=_)]
 rfl
noncomputable def toCellSdL (N:Nat) (p:List D):List D→Out:=loopOf Tryz.prog (find [toCellE]) N [0,2,3,4,11] Tryz.f245 (.one (.c (.own (0,0) true 176))) [⟨sd (.sl 308),p⟩] 0
theorem toCellSd_rd (p:List D) (N:Nat) (z x2:D) (rows:List (List D)) (k:Int):toCellSdL N p [z,x2,.l rows,.i k]=bif decide (k<z.rows.length) then nd (inRange k z.rows.length) (nd (okCell (sub (z.rows.getD k.toNat []) 0 2)) (nd (inRange k rows.length) (nx [z,x2,.l (rows.set k.toNat (cpCell (sub (z.rows.getD k.toNat []) 0 2))),.i (w64 (k+1))]))) else ex 0 [z,x2,.l rows,.i k]:=by kernel_rfl
theorem toCellSd_ev (p:List D) (N:Nat):evFn Tryz.prog (find [toCellE]) N [0,2,3,4,11] Tryz.f245 (.one (.c (.own (0,0) true 176))) [⟨sd (.sl 308),p⟩]=some (bo,nd (decide (0≤((gd p 0).rows.length:Int))&&decide (((gd p 0).rows.length:Int)=((gd p 0).rows.length:Int))&&decide (((gd p 0).rows.length:Int)≤4294967296)&&true&&true)
  (let o:=iter (toCellSdL N p) N [gd p 0,.l [],.l (List.replicate (gd p 0).rows.length [.i 0,.i 0]),.i 0]
   nd o.isSome (nd (o.code==2) (some (1,[gd o.pay 2]))))):=by kernel_rfl
def toCellSdE:Ent:=(245,e1 (sd (.sl 308)) fun p=>(⟨.one (.c (.own (0,0) true 176)),[cpCellS (gd p 0)]⟩,okCellS (gd p 0)))
theorem toCellSd_ok:EntOk Tryz.prog toCellSdE:=e1_ok fun p h=>evFn_sound (N:=(gd p 0).rows.length+1) (ks:= [0,2,3,4,11]) (key:=bo) (find_ok (fC ⟨toCell_ok,fN⟩)) (enters Tryz.func245) Tryz.func245 fun hw=>by
 have h:okCellS (gd p 0)=true:=h
 simp only [okCellS,Bool.and_eq_true,decide_eq_true_eq,List.all_eq_true] at h
 rw [toCellSd_ev,fill_loop (ok:=fun r=>okCell (sub r 0 2)) (f:=fun r=>cpCell (sub r 0 2)) [.i 0,.i 0] (wt_sl (hw ⟨sd (.sl 308),p⟩ (by simp))) h.2 (toCellSd_rd p _ _ _) (by omega)]
 rw [show decide (((gd p 0).rows.length:Int)≤4294967296)=true from decide_eq_true (by omega),show decide (0≤((gd p 0).rows.length:Int))=true from decide_eq_true (by omega),decide_eq_true (rfl:((gd p 0).rows.length:Int)=_)]
 rfl
noncomputable def toRangeSdL (N:Nat) (p:List D):List D→Out:=loopOf Tryz.prog (find [toRangeE]) N [0,2,3,4,11] Tryz.f246 (.one (.c (.own (0,0) true 122))) [⟨sd (.sl 310),p⟩] 0
theorem toRangeSd_rd (p:List D) (N:Nat) (z x2:D) (rows:List (List D)) (k:Int):toRangeSdL N p [z,x2,.l rows,.i k]=bif decide (k<z.rows.length) then nd (inRange k z.rows.length) (nd (okRange (sub (z.rows.getD k.toNat []) 0 2)) (nd (inRange k rows.length) (nx [z,x2,.l (rows.set k.toNat (cpRange (sub (z.rows.getD k.toNat []) 0 2))),.i (w64 (k+1))]))) else ex 0 [z,x2,.l rows,.i k]:=by kernel_rfl
theorem toRangeSd_ev (p:List D) (N:Nat):evFn Tryz.prog (find [toRangeE]) N [0,2,3,4,11] Tryz.f246 (.one (.c (.own (0,0) true 122))) [⟨sd (.sl 310),p⟩]=some (bo,nd (decide (0≤((gd p 0).rows.length:Int))&&decide (((gd p 0).rows.length:Int)=((gd p 0).rows.length:Int))&&decide (((gd p 0).rows.length:Int)≤4294967296)&&true&&true)
  (let o:=iter (toRangeSdL N p) N [gd p 0,.l [],.l (List.replicate (gd p 0).rows.length [.i 0,.i 0]),.i 0]
   nd o.isSome (nd (o.code==2) (some (1,[gd o.pay 2]))))):=by kernel_rfl
def toRangeSdE:Ent:=(246,e1 (sd (.sl 310)) fun p=>(⟨.one (.c (.own (0,0) true 122)),[cpRangeS (gd p 0)]⟩,okRangeS (gd p 0)))
theorem toRangeSd_ok:EntOk Tryz.prog toRangeSdE:=e1_ok fun p h=>evFn_sound (N:=(gd p 0).rows.length+1) (ks:= [0,2,3,4,11]) (key:=bo) (find_ok (fC ⟨toRange_ok,fN⟩)) (enters Tryz.func246) Tryz.func246 fun hw=>by
 have h:okRangeS (gd p 0)=true:=h
 simp only [okRangeS,Bool.and_eq_true,decide_eq_true_eq,List.all_eq_true] at h
 rw [toRangeSd_ev,fill_loop (ok:=fun r=>okRange (sub r 0 2)) (f:=fun r=>cpRange (sub r 0 2)) [.i 0,.i 0] (wt_sl (hw ⟨sd (.sl 310),p⟩ (by simp))) h.2 (toRangeSd_rd p _ _ _) (by omega)]
 rw [show decide (((gd p 0).rows.length:Int)≤4294967296)=true from decide_eq_true (by omega),show decide (0≤((gd p 0).rows.length:Int))=true from decide_eq_true (by omega),decide_eq_true (rfl:((gd p 0).rows.length:Int)=_)]
 rfl
noncomputable def toWriteSdL (N:Nat) (p:List D):List D→Out:=loopOf Tryz.prog (find [toWriteE]) N [0,2,3,4,11] Tryz.f250 (.one (.c (.own (0,0) true 132))) [⟨sd (.sl 315),p⟩] 0
theorem toWriteSd_rd (p:List D) (N:Nat) (z x2:D) (rows:List (List D)) (k:Int):toWriteSdL N p [z,x2,.l rows,.i k]=bif decide (k<z.rows.length) then nd (inRange k z.rows.length) (nd (okWrite (sub (z.rows.getD k.toNat []) 0 2)) (nd (inRange k rows.length) (nx [z,x2,.l (rows.set k.toNat (cpWrite (sub (z.rows.getD k.toNat []) 0 2))),.i (w64 (k+1))]))) else ex 0 [z,x2,.l rows,.i k]:=by kernel_rfl
theorem toWriteSd_ev (p:List D) (N:Nat):evFn Tryz.prog (find [toWriteE]) N [0,2,3,4,11] Tryz.f250 (.one (.c (.own (0,0) true 132))) [⟨sd (.sl 315),p⟩]=some (bo,nd (decide (0≤((gd p 0).rows.length:Int))&&decide (((gd p 0).rows.length:Int)=((gd p 0).rows.length:Int))&&decide (((gd p 0).rows.length:Int)≤4294967296)&&true&&true)
  (let o:=iter (toWriteSdL N p) N [gd p 0,.l [],.l (List.replicate (gd p 0).rows.length [.i 0,.i 0]),.i 0]
   nd o.isSome (nd (o.code==2) (some (1,[gd o.pay 2]))))):=by kernel_rfl
def toWriteSdE:Ent:=(250,e1 (sd (.sl 315)) fun p=>(⟨.one (.c (.own (0,0) true 132)),[cpWriteS (gd p 0)]⟩,okWriteS (gd p 0)))
theorem toWriteSd_ok:EntOk Tryz.prog toWriteSdE:=e1_ok fun p h=>evFn_sound (N:=(gd p 0).rows.length+1) (ks:= [0,2,3,4,11]) (key:=bo) (find_ok (fC ⟨toWrite_ok,fN⟩)) (enters Tryz.func250) Tryz.func250 fun hw=>by
 have h:okWriteS (gd p 0)=true:=h
 simp only [okWriteS,Bool.and_eq_true,decide_eq_true_eq,List.all_eq_true] at h
 rw [toWriteSd_ev,fill_loop (ok:=fun r=>okWrite (sub r 0 2)) (f:=fun r=>cpWrite (sub r 0 2)) [.i 0,.i 0] (wt_sl (hw ⟨sd (.sl 315),p⟩ (by simp))) h.2 (toWriteSd_rd p _ _ _) (by omega)]
 rw [show decide (((gd p 0).rows.length:Int)≤4294967296)=true from decide_eq_true (by omega),show decide (0≤((gd p 0).rows.length:Int))=true from decide_eq_true (by omega),decide_eq_true (rfl:((gd p 0).rows.length:Int)=_)]
 rfl
theorem toShared_ev (p:List D) (N:Nat):evFn Tryz.prog (find [toRangeSdE,toWriteSdE]) N [0,1,2,3] Tryz.f306 (.one (.agg rDShare)) [⟨ag rLShare,p⟩]=some (bo,nd (okRangeS (gd p 1)) (nd (okWriteS (gd p 2)) (some (1,cpShare p)))):=by kernel_rfl
def toSharedE:Ent:=(306,e1 (ag rLShare) fun p=>(⟨.one (.agg rDShare),cpShare p⟩,okShare p))
theorem toShared_ok:EntOk Tryz.prog toSharedE:=e1_ok fun p h=>evFn_sound (N:=0) (ks:= [0,1,2,3]) (key:=bo) (find_ok (fC ⟨toRangeSd_ok,fC ⟨toWriteSd_ok,fN⟩⟩)) (enters Tryz.func306) Tryz.func306 fun _=>by
 have h:okShare p=true:=h
 simp only [okShare,Bool.and_eq_true] at h
 rw [toShared_ev]
 simp only [nd,h.1,h.2,cond_true]
noncomputable def toShareSdL (N:Nat) (p:List D):List D→Out:=loopOf Tryz.prog (find [toSharedE,deepE [7]]) N [0,2,3,4,11] Tryz.f252 (.one (.c (.own (0,1000000) true 118))) [⟨sd (.sl 306),p⟩] 0
theorem toShareSd_rd (p:List D) (N:Nat) (z x2:D) (rows:List (List D)) (k:Int):toShareSdL N p [z,x2,.l rows,.i k]=bif decide (k<z.rows.length) then nd (inRange k z.rows.length) (nd (okShare (sub (z.rows.getD k.toNat []) 0 4)) (nd (inRange k rows.length) (nx [z,x2,.l (rows.set k.toNat (cpShare (sub (z.rows.getD k.toNat []) 0 4))),.i (w64 (k+1))]))) else ex 0 [z,x2,.l rows,.i k]:=by kernel_rfl
theorem toShareSd_ev (p:List D) (N:Nat):evFn Tryz.prog (find [toSharedE,deepE [7]]) N [0,2,3,4,11] Tryz.f252 (.one (.c (.own (0,1000000) true 118))) [⟨sd (.sl 306),p⟩]=some (bo,nd (decide (0≤((gd p 0).rows.length:Int))&&decide (((gd p 0).rows.length:Int)=((gd p 0).rows.length:Int))&&decide (((gd p 0).rows.length:Int)≤4294967296)&&true&&true)
  (let o:=iter (toShareSdL N p) N [gd p 0,.l [],.l (List.replicate (gd p 0).rows.length [.i 0,.l [],.l [],.i 0]),.i 0]
   nd o.isSome (nd (o.code==2) (some (1,[gd o.pay 2]))))):=by kernel_rfl
def toShareSdE:Ent:=(252,e1 (sd (.sl 306)) fun p=>(⟨.one (.c (.own (0,1000000) true 118)),[cpShareS (gd p 0)]⟩,okShareS (gd p 0)))
theorem toShareSd_ok:EntOk Tryz.prog toShareSdE:=e1_ok fun p h=>evFn_sound (N:=(gd p 0).rows.length+1) (ks:= [0,2,3,4,11]) (key:=bo) (find_ok (fC ⟨toShared_ok,fC ⟨deepE_ok _,fN⟩⟩)) (enters Tryz.func252) Tryz.func252 fun hw=>by
 have h:okShareS (gd p 0)=true:=h
 simp only [okShareS,Bool.and_eq_true,decide_eq_true_eq,List.all_eq_true] at h
 rw [toShareSd_ev,fill_loop (ok:=fun r=>okShare (sub r 0 4)) (f:=fun r=>cpShare (sub r 0 4)) [.i 0,.l [],.l [],.i 0] (wt_sl (hw ⟨sd (.sl 306),p⟩ (by simp))) h.2 (toShareSd_rd p _ _ _) (by omega)]
 rw [show decide (((gd p 0).rows.length:Int)≤4294967296)=true from decide_eq_true (by omega),show decide (0≤((gd p 0).rows.length:Int))=true from decide_eq_true (by omega),decide_eq_true (rfl:((gd p 0).rows.length:Int)=_)]
 rfl
theorem toRecd_ev (p:List D) (N:Nat):evFn Tryz.prog (find [toShareSdE]) N [0,1,2,3] Tryz.f249 (.one (.agg rDRec)) [⟨ag rLRec,p⟩]=some (bo,nd (okShareS (gd p 4)) (some (1,cpRec p))):=by kernel_rfl
def toRecdE:Ent:=(249,e1 (ag rLRec) fun p=>(⟨.one (.agg rDRec),cpRec p⟩,okRec p))
theorem toRecd_ok:EntOk Tryz.prog toRecdE:=e1_ok fun p h=>evFn_sound (N:=0) (ks:= [0,1,2,3]) (key:=bo) (find_ok (fC ⟨toShareSd_ok,fN⟩)) (enters Tryz.func249) Tryz.func249 fun _=>by
 have h:okRec p=true:=h
 simp only [okRec,Bool.and_eq_true] at h
 rw [toRecd_ev]
 simp only [nd,h,cond_true]
noncomputable def toRecSdL (N:Nat) (p:List D):List D→Out:=loopOf Tryz.prog (find [toRecdE,deepE [7]]) N [0,2,3,4,11] Tryz.f150 (.one (.c (.own (0,1000000) true 116))) [⟨sd (.sl 241),p⟩] 0
theorem toRecSd_rd (p:List D) (N:Nat) (z x2:D) (rows:List (List D)) (k:Int):toRecSdL N p [z,x2,.l rows,.i k]=bif decide (k<z.rows.length) then nd (inRange k z.rows.length) (nd (okRec (sub (z.rows.getD k.toNat []) 0 5)) (nd (inRange k rows.length) (nx [z,x2,.l (rows.set k.toNat (cpRec (sub (z.rows.getD k.toNat []) 0 5))),.i (w64 (k+1))]))) else ex 0 [z,x2,.l rows,.i k]:=by kernel_rfl
theorem toRecSd_ev (p:List D) (N:Nat):evFn Tryz.prog (find [toRecdE,deepE [7]]) N [0,2,3,4,11] Tryz.f150 (.one (.c (.own (0,1000000) true 116))) [⟨sd (.sl 241),p⟩]=some (bo,nd (decide (0≤((gd p 0).rows.length:Int))&&decide (((gd p 0).rows.length:Int)=((gd p 0).rows.length:Int))&&decide (((gd p 0).rows.length:Int)≤4294967296)&&true&&true)
  (let o:=iter (toRecSdL N p) N [gd p 0,.l [],.l (List.replicate (gd p 0).rows.length [.i 0,.i 0,.i 0,.i 0,.l []]),.i 0]
   nd o.isSome (nd (o.code==2) (some (1,[gd o.pay 2]))))):=by kernel_rfl
def toRecSdE:Ent:=(150,e1 (sd (.sl 241)) fun p=>(⟨.one (.c (.own (0,1000000) true 116)),[cpRecS (gd p 0)]⟩,okRecS (gd p 0)))
theorem toRecSd_ok:EntOk Tryz.prog toRecSdE:=e1_ok fun p h=>evFn_sound (N:=(gd p 0).rows.length+1) (ks:= [0,2,3,4,11]) (key:=bo) (find_ok (fC ⟨toRecd_ok,fC ⟨deepE_ok _,fN⟩⟩)) (enters Tryz.func150) Tryz.func150 fun hw=>by
 have h:okRecS (gd p 0)=true:=h
 simp only [okRecS,Bool.and_eq_true,decide_eq_true_eq,List.all_eq_true] at h
 rw [toRecSd_ev,fill_loop (ok:=fun r=>okRec (sub r 0 5)) (f:=fun r=>cpRec (sub r 0 5)) [.i 0,.i 0,.i 0,.i 0,.l []] (wt_sl (hw ⟨sd (.sl 241),p⟩ (by simp))) h.2 (toRecSd_rd p _ _ _) (by omega)]
 rw [show decide (((gd p 0).rows.length:Int)≤4294967296)=true from decide_eq_true (by omega),show decide (0≤((gd p 0).rows.length:Int))=true from decide_eq_true (by omega),decide_eq_true (rfl:((gd p 0).rows.length:Int)=_)]
 rfl
theorem toCoordd_ev (p:List D) (N:Nat):evFn Tryz.prog (find [toRecSdE,toIntSdE]) N [0,1,2,3] Tryz.f56 (.one (.agg rDCoord)) [⟨ag rLCoord,p⟩]=some (bo,nd (okRecS (gd p 0)) (nd (okIntS (gd p 1)) (some (1,cpCoord p)))):=by kernel_rfl
def toCoorddE:Ent:=(56,e1 (ag rLCoord) fun p=>(⟨.one (.agg rDCoord),cpCoord p⟩,okCoord p))
theorem toCoordd_ok:EntOk Tryz.prog toCoorddE:=e1_ok fun p h=>evFn_sound (N:=0) (ks:= [0,1,2,3]) (key:=bo) (find_ok (fC ⟨toRecSd_ok,fC ⟨toIntSd_ok,fN⟩⟩)) (enters Tryz.func56) Tryz.func56 fun _=>by
 have h:okCoord p=true:=h
 simp only [okCoord,Bool.and_eq_true] at h
 rw [toCoordd_ev]
 simp only [nd,h.1,h.2,cond_true]
theorem toEventd_ev (p:List D) (N:Nat):evFn Tryz.prog (find [toCellSdE]) N [0,1,2,3] Tryz.f154 (.one (.agg rDEvent)) [⟨ag rLEvent,p⟩]=some (bo,nd (okCellS (gd p 5)) (some (1,cpEvent p))):=by kernel_rfl
def toEventdE:Ent:=(154,e1 (ag rLEvent) fun p=>(⟨.one (.agg rDEvent),cpEvent p⟩,okEvent p))
theorem toEventd_ok:EntOk Tryz.prog toEventdE:=e1_ok fun p h=>evFn_sound (N:=0) (ks:= [0,1,2,3]) (key:=bo) (find_ok (fC ⟨toCellSd_ok,fN⟩)) (enters Tryz.func154) Tryz.func154 fun _=>by
 have h:okEvent p=true:=h
 simp only [okEvent,Bool.and_eq_true] at h
 rw [toEventd_ev]
 simp only [nd,h,cond_true]
noncomputable def toEventSdL (N:Nat) (p:List D):List D→Out:=loopOf Tryz.prog (find [toEventdE,deepE [7]]) N [0,2,3,4,11] Tryz.f59 (.one (.c (.own (0,1000000) true 88))) [⟨sd (.sl 167),p⟩] 0
theorem toEventSd_rd (p:List D) (N:Nat) (z x2:D) (rows:List (List D)) (k:Int):toEventSdL N p [z,x2,.l rows,.i k]=bif decide (k<z.rows.length) then nd (inRange k z.rows.length) (nd (okEvent (sub (z.rows.getD k.toNat []) 0 7)) (nd (inRange k rows.length) (nx [z,x2,.l (rows.set k.toNat (cpEvent (sub (z.rows.getD k.toNat []) 0 7))),.i (w64 (k+1))]))) else ex 0 [z,x2,.l rows,.i k]:=by kernel_rfl
theorem toEventSd_ev (p:List D) (N:Nat):evFn Tryz.prog (find [toEventdE,deepE [7]]) N [0,2,3,4,11] Tryz.f59 (.one (.c (.own (0,1000000) true 88))) [⟨sd (.sl 167),p⟩]=some (bo,nd (decide (0≤((gd p 0).rows.length:Int))&&decide (((gd p 0).rows.length:Int)=((gd p 0).rows.length:Int))&&decide (((gd p 0).rows.length:Int)≤4294967296)&&true&&true)
  (let o:=iter (toEventSdL N p) N [gd p 0,.l [],.l (List.replicate (gd p 0).rows.length [.i 0,.i 0,.i 0,.i 0,.i 0,.l [],.b false]),.i 0]
   nd o.isSome (nd (o.code==2) (some (1,[gd o.pay 2]))))):=by kernel_rfl
def toEventSdE:Ent:=(59,e1 (sd (.sl 167)) fun p=>(⟨.one (.c (.own (0,1000000) true 88)),[cpEventS (gd p 0)]⟩,okEventS (gd p 0)))
theorem toEventSd_ok:EntOk Tryz.prog toEventSdE:=e1_ok fun p h=>evFn_sound (N:=(gd p 0).rows.length+1) (ks:= [0,2,3,4,11]) (key:=bo) (find_ok (fC ⟨toEventd_ok,fC ⟨deepE_ok _,fN⟩⟩)) (enters Tryz.func59) Tryz.func59 fun hw=>by
 have h:okEventS (gd p 0)=true:=h
 simp only [okEventS,Bool.and_eq_true,decide_eq_true_eq,List.all_eq_true] at h
 rw [toEventSd_ev,fill_loop (ok:=fun r=>okEvent (sub r 0 7)) (f:=fun r=>cpEvent (sub r 0 7)) [.i 0,.i 0,.i 0,.i 0,.i 0,.l [],.b false] (wt_sl (hw ⟨sd (.sl 167),p⟩ (by simp))) h.2 (toEventSd_rd p _ _ _) (by omega)]
 rw [show decide (((gd p 0).rows.length:Int)≤4294967296)=true from decide_eq_true (by omega),show decide (0≤((gd p 0).rows.length:Int))=true from decide_eq_true (by omega),decide_eq_true (rfl:((gd p 0).rows.length:Int)=_)]
 rfl
noncomputable def toPartSdL (N:Nat) (p:List D):List D→Out:=loopOf Tryz.prog (find [toPartE]) N [0,2,3,4,11] Tryz.f147 (.one (.c (.own (0,0) true 97))) [⟨sd (.sl 252),p⟩] 0
theorem toPartSd_rd (p:List D) (N:Nat) (z x2:D) (rows:List (List D)) (k:Int):toPartSdL N p [z,x2,.l rows,.i k]=bif decide (k<z.rows.length) then nd (inRange k z.rows.length) (nd (okPart (sub (z.rows.getD k.toNat []) 0 3)) (nd (inRange k rows.length) (nx [z,x2,.l (rows.set k.toNat (cpPart (sub (z.rows.getD k.toNat []) 0 3))),.i (w64 (k+1))]))) else ex 0 [z,x2,.l rows,.i k]:=by kernel_rfl
theorem toPartSd_ev (p:List D) (N:Nat):evFn Tryz.prog (find [toPartE]) N [0,2,3,4,11] Tryz.f147 (.one (.c (.own (0,0) true 97))) [⟨sd (.sl 252),p⟩]=some (bo,nd (decide (0≤((gd p 0).rows.length:Int))&&decide (((gd p 0).rows.length:Int)=((gd p 0).rows.length:Int))&&decide (((gd p 0).rows.length:Int)≤4294967296)&&true&&true)
  (let o:=iter (toPartSdL N p) N [gd p 0,.l [],.l (List.replicate (gd p 0).rows.length [.i 0,.i 0,.i 0]),.i 0]
   nd o.isSome (nd (o.code==2) (some (1,[gd o.pay 2]))))):=by kernel_rfl
def toPartSdE:Ent:=(147,e1 (sd (.sl 252)) fun p=>(⟨.one (.c (.own (0,0) true 97)),[cpPartS (gd p 0)]⟩,okPartS (gd p 0)))
theorem toPartSd_ok:EntOk Tryz.prog toPartSdE:=e1_ok fun p h=>evFn_sound (N:=(gd p 0).rows.length+1) (ks:= [0,2,3,4,11]) (key:=bo) (find_ok (fC ⟨toPart_ok,fN⟩)) (enters Tryz.func147) Tryz.func147 fun hw=>by
 have h:okPartS (gd p 0)=true:=h
 simp only [okPartS,Bool.and_eq_true,decide_eq_true_eq,List.all_eq_true] at h
 rw [toPartSd_ev,fill_loop (ok:=fun r=>okPart (sub r 0 3)) (f:=fun r=>cpPart (sub r 0 3)) [.i 0,.i 0,.i 0] (wt_sl (hw ⟨sd (.sl 252),p⟩ (by simp))) h.2 (toPartSd_rd p _ _ _) (by omega)]
 rw [show decide (((gd p 0).rows.length:Int)≤4294967296)=true from decide_eq_true (by omega),show decide (0≤((gd p 0).rows.length:Int))=true from decide_eq_true (by omega),decide_eq_true (rfl:((gd p 0).rows.length:Int)=_)]
 rfl
theorem toMoved_ev (p:List D) (N:Nat):evFn Tryz.prog (find [toCellSdE]) N [0,1,2,3] Tryz.f148 (.one (.agg rDMove)) [⟨ag rLMove,p⟩]=some (bo,nd (okCellS (gd p 6)) (some (1,cpMove p))):=by kernel_rfl
def toMovedE:Ent:=(148,e1 (ag rLMove) fun p=>(⟨.one (.agg rDMove),cpMove p⟩,okMove p))
theorem toMoved_ok:EntOk Tryz.prog toMovedE:=e1_ok fun p h=>evFn_sound (N:=0) (ks:= [0,1,2,3]) (key:=bo) (find_ok (fC ⟨toCellSd_ok,fN⟩)) (enters Tryz.func148) Tryz.func148 fun _=>by
 have h:okMove p=true:=h
 simp only [okMove,Bool.and_eq_true] at h
 rw [toMoved_ev]
 simp only [nd,h,cond_true]
theorem toAtlasd_ev (p:List D) (N:Nat):evFn Tryz.prog (find [toPartSdE,toMovedE]) N [0,1,2,3] Tryz.f54 (.one (.agg rDAtlas)) [⟨ag rLAtlas,p⟩]=some (bo,nd (okPartS (gd p 1)) (nd (okMove (sub p 2 7)) (some (1,cpAtlas p)))):=by kernel_rfl
def toAtlasdE:Ent:=(54,e1 (ag rLAtlas) fun p=>(⟨.one (.agg rDAtlas),cpAtlas p⟩,okAtlas p))
theorem toAtlasd_ok:EntOk Tryz.prog toAtlasdE:=e1_ok fun p h=>evFn_sound (N:=0) (ks:= [0,1,2,3]) (key:=bo) (find_ok (fC ⟨toPartSd_ok,fC ⟨toMoved_ok,fN⟩⟩)) (enters Tryz.func54) Tryz.func54 fun _=>by
 have h:okAtlas p=true:=h
 simp only [okAtlas,Bool.and_eq_true] at h
 rw [toAtlasd_ev]
 simp only [nd,h,cond_true]
noncomputable def toLockSdL (N:Nat) (p:List D):List D→Out:=loopOf Tryz.prog (find [toLockE]) N [0,2,3,4,11] Tryz.f247 (.one (.c (.own (0,0) true 138))) [⟨sd (.sl 312),p⟩] 0
theorem toLockSd_rd (p:List D) (N:Nat) (z x2:D) (rows:List (List D)) (k:Int):toLockSdL N p [z,x2,.l rows,.i k]=bif decide (k<z.rows.length) then nd (inRange k z.rows.length) (nd (okLock (sub (z.rows.getD k.toNat []) 0 4)) (nd (inRange k rows.length) (nx [z,x2,.l (rows.set k.toNat (cpLock (sub (z.rows.getD k.toNat []) 0 4))),.i (w64 (k+1))]))) else ex 0 [z,x2,.l rows,.i k]:=by kernel_rfl
theorem toLockSd_ev (p:List D) (N:Nat):evFn Tryz.prog (find [toLockE]) N [0,2,3,4,11] Tryz.f247 (.one (.c (.own (0,0) true 138))) [⟨sd (.sl 312),p⟩]=some (bo,nd (decide (0≤((gd p 0).rows.length:Int))&&decide (((gd p 0).rows.length:Int)=((gd p 0).rows.length:Int))&&decide (((gd p 0).rows.length:Int)≤4294967296)&&true&&true)
  (let o:=iter (toLockSdL N p) N [gd p 0,.l [],.l (List.replicate (gd p 0).rows.length [.i 0,.i 0,.i 0,.i 0]),.i 0]
   nd o.isSome (nd (o.code==2) (some (1,[gd o.pay 2]))))):=by kernel_rfl
def toLockSdE:Ent:=(247,e1 (sd (.sl 312)) fun p=>(⟨.one (.c (.own (0,0) true 138)),[cpLockS (gd p 0)]⟩,okLockS (gd p 0)))
theorem toLockSd_ok:EntOk Tryz.prog toLockSdE:=e1_ok fun p h=>evFn_sound (N:=(gd p 0).rows.length+1) (ks:= [0,2,3,4,11]) (key:=bo) (find_ok (fC ⟨toLock_ok,fN⟩)) (enters Tryz.func247) Tryz.func247 fun hw=>by
 have h:okLockS (gd p 0)=true:=h
 simp only [okLockS,Bool.and_eq_true,decide_eq_true_eq,List.all_eq_true] at h
 rw [toLockSd_ev,fill_loop (ok:=fun r=>okLock (sub r 0 4)) (f:=fun r=>cpLock (sub r 0 4)) [.i 0,.i 0,.i 0,.i 0] (wt_sl (hw ⟨sd (.sl 312),p⟩ (by simp))) h.2 (toLockSd_rd p _ _ _) (by omega)]
 rw [show decide (((gd p 0).rows.length:Int)≤4294967296)=true from decide_eq_true (by omega),show decide (0≤((gd p 0).rows.length:Int))=true from decide_eq_true (by omega),decide_eq_true (rfl:((gd p 0).rows.length:Int)=_)]
 rfl
theorem toHeldd_ev (p:List D) (N:Nat):evFn Tryz.prog (find [toWriteSdE]) N [0,1,2,3] Tryz.f303 (.one (.agg rDHeld)) [⟨ag rLHeld,p⟩]=some (bo,nd (okWriteS (gd p 1)) (some (1,cpHeld p))):=by kernel_rfl
def toHelddE:Ent:=(303,e1 (ag rLHeld) fun p=>(⟨.one (.agg rDHeld),cpHeld p⟩,okHeld p))
theorem toHeldd_ok:EntOk Tryz.prog toHelddE:=e1_ok fun p h=>evFn_sound (N:=0) (ks:= [0,1,2,3]) (key:=bo) (find_ok (fC ⟨toWriteSd_ok,fN⟩)) (enters Tryz.func303) Tryz.func303 fun _=>by
 have h:okHeld p=true:=h
 simp only [okHeld,Bool.and_eq_true] at h
 rw [toHeldd_ev]
 simp only [nd,h,cond_true]
noncomputable def toHeldSdL (N:Nat) (p:List D):List D→Out:=loopOf Tryz.prog (find [toHelddE,deepE [7]]) N [0,2,3,4,11] Tryz.f248 (.one (.c (.own (0,1000000) true 248))) [⟨sd (.sl 303),p⟩] 0
theorem toHeldSd_rd (p:List D) (N:Nat) (z x2:D) (rows:List (List D)) (k:Int):toHeldSdL N p [z,x2,.l rows,.i k]=bif decide (k<z.rows.length) then nd (inRange k z.rows.length) (nd (okHeld (sub (z.rows.getD k.toNat []) 0 2)) (nd (inRange k rows.length) (nx [z,x2,.l (rows.set k.toNat (cpHeld (sub (z.rows.getD k.toNat []) 0 2))),.i (w64 (k+1))]))) else ex 0 [z,x2,.l rows,.i k]:=by kernel_rfl
theorem toHeldSd_ev (p:List D) (N:Nat):evFn Tryz.prog (find [toHelddE,deepE [7]]) N [0,2,3,4,11] Tryz.f248 (.one (.c (.own (0,1000000) true 248))) [⟨sd (.sl 303),p⟩]=some (bo,nd (decide (0≤((gd p 0).rows.length:Int))&&decide (((gd p 0).rows.length:Int)=((gd p 0).rows.length:Int))&&decide (((gd p 0).rows.length:Int)≤4294967296)&&true&&true)
  (let o:=iter (toHeldSdL N p) N [gd p 0,.l [],.l (List.replicate (gd p 0).rows.length [.i 0,.l []]),.i 0]
   nd o.isSome (nd (o.code==2) (some (1,[gd o.pay 2]))))):=by kernel_rfl
def toHeldSdE:Ent:=(248,e1 (sd (.sl 303)) fun p=>(⟨.one (.c (.own (0,1000000) true 248)),[cpHeldS (gd p 0)]⟩,okHeldS (gd p 0)))
theorem toHeldSd_ok:EntOk Tryz.prog toHeldSdE:=e1_ok fun p h=>evFn_sound (N:=(gd p 0).rows.length+1) (ks:= [0,2,3,4,11]) (key:=bo) (find_ok (fC ⟨toHeldd_ok,fC ⟨deepE_ok _,fN⟩⟩)) (enters Tryz.func248) Tryz.func248 fun hw=>by
 have h:okHeldS (gd p 0)=true:=h
 simp only [okHeldS,Bool.and_eq_true,decide_eq_true_eq,List.all_eq_true] at h
 rw [toHeldSd_ev,fill_loop (ok:=fun r=>okHeld (sub r 0 2)) (f:=fun r=>cpHeld (sub r 0 2)) [.i 0,.l []] (wt_sl (hw ⟨sd (.sl 303),p⟩ (by simp))) h.2 (toHeldSd_rd p _ _ _) (by omega)]
 rw [show decide (((gd p 0).rows.length:Int)≤4294967296)=true from decide_eq_true (by omega),show decide (0≤((gd p 0).rows.length:Int))=true from decide_eq_true (by omega),decide_eq_true (rfl:((gd p 0).rows.length:Int)=_)]
 rfl
theorem toShardd_ev (p:List D) (N:Nat):evFn Tryz.prog (find [toRangeSdE,toRangeSdE,toCellSdE,toLockSdE,toHeldSdE,toIntSdE,toIntSdE]) N [0,1,2,3] Tryz.f149 (.one (.agg rDShard)) [⟨ag rLShard,p⟩]=some (bo,nd (okRangeS (gd p 1)) (nd (okRangeS (gd p 2)) (nd (okCellS (gd p 3)) (nd (okLockS (gd p 4)) (nd (okHeldS (gd p 5)) (nd (okIntS (gd p 6)) (nd (okIntS (gd p 7)) (some (1,cpShard p))))))))):=by kernel_rfl
def toSharddE:Ent:=(149,e1 (ag rLShard) fun p=>(⟨.one (.agg rDShard),cpShard p⟩,okShard p))
theorem toShardd_ok:EntOk Tryz.prog toSharddE:=e1_ok fun p h=>evFn_sound (N:=0) (ks:= [0,1,2,3]) (key:=bo) (find_ok (fC ⟨toRangeSd_ok,fC ⟨toRangeSd_ok,fC ⟨toCellSd_ok,fC ⟨toLockSd_ok,fC ⟨toHeldSd_ok,fC ⟨toIntSd_ok,fC ⟨toIntSd_ok,fN⟩⟩⟩⟩⟩⟩⟩)) (enters Tryz.func149) Tryz.func149 fun _=>by
 have h:okShard p=true:=h
 simp only [okShard,Bool.and_eq_true] at h
 rw [toShardd_ev]
 simp only [nd,h,cond_true]
noncomputable def toShardSdL (N:Nat) (p:List D):List D→Out:=loopOf Tryz.prog (find [toSharddE,deepE [7]]) N [0,2,3,4,11] Tryz.f55 (.one (.c (.own (0,1000000) true 80))) [⟨sd (.sl 154),p⟩] 0
theorem toShardSd_rd (p:List D) (N:Nat) (z x2:D) (rows:List (List D)) (k:Int):toShardSdL N p [z,x2,.l rows,.i k]=bif decide (k<z.rows.length) then nd (inRange k z.rows.length) (nd (okShard (sub (z.rows.getD k.toNat []) 0 9)) (nd (inRange k rows.length) (nx [z,x2,.l (rows.set k.toNat (cpShard (sub (z.rows.getD k.toNat []) 0 9))),.i (w64 (k+1))]))) else ex 0 [z,x2,.l rows,.i k]:=by kernel_rfl
theorem toShardSd_ev (p:List D) (N:Nat):evFn Tryz.prog (find [toSharddE,deepE [7]]) N [0,2,3,4,11] Tryz.f55 (.one (.c (.own (0,1000000) true 80))) [⟨sd (.sl 154),p⟩]=some (bo,nd (decide (0≤((gd p 0).rows.length:Int))&&decide (((gd p 0).rows.length:Int)=((gd p 0).rows.length:Int))&&decide (((gd p 0).rows.length:Int)≤4294967296)&&true&&true)
  (let o:=iter (toShardSdL N p) N [gd p 0,.l [],.l (List.replicate (gd p 0).rows.length [.i 0,.l [],.l [],.l [],.l [],.l [],.l [],.l [],.i 0]),.i 0]
   nd o.isSome (nd (o.code==2) (some (1,[gd o.pay 2]))))):=by kernel_rfl
def toShardSdE:Ent:=(55,e1 (sd (.sl 154)) fun p=>(⟨.one (.c (.own (0,1000000) true 80)),[cpShardS (gd p 0)]⟩,okShardS (gd p 0)))
theorem toShardSd_ok:EntOk Tryz.prog toShardSdE:=e1_ok fun p h=>evFn_sound (N:=(gd p 0).rows.length+1) (ks:= [0,2,3,4,11]) (key:=bo) (find_ok (fC ⟨toShardd_ok,fC ⟨deepE_ok _,fN⟩⟩)) (enters Tryz.func55) Tryz.func55 fun hw=>by
 have h:okShardS (gd p 0)=true:=h
 simp only [okShardS,Bool.and_eq_true,decide_eq_true_eq,List.all_eq_true] at h
 rw [toShardSd_ev,fill_loop (ok:=fun r=>okShard (sub r 0 9)) (f:=fun r=>cpShard (sub r 0 9)) [.i 0,.l [],.l [],.l [],.l [],.l [],.l [],.l [],.i 0] (wt_sl (hw ⟨sd (.sl 154),p⟩ (by simp))) h.2 (toShardSd_rd p _ _ _) (by omega)]
 rw [show decide (((gd p 0).rows.length:Int)≤4294967296)=true from decide_eq_true (by omega),show decide (0≤((gd p 0).rows.length:Int))=true from decide_eq_true (by omega),decide_eq_true (rfl:((gd p 0).rows.length:Int)=_)]
 rfl
noncomputable def toSeenSdL (N:Nat) (p:List D):List D→Out:=loopOf Tryz.prog (find [toSeenE]) N [0,2,3,4,11] Tryz.f251 (.one (.c (.own (0,0) true 130))) [⟨sd (.sl 317),p⟩] 0
theorem toSeenSd_rd (p:List D) (N:Nat) (z x2:D) (rows:List (List D)) (k:Int):toSeenSdL N p [z,x2,.l rows,.i k]=bif decide (k<z.rows.length) then nd (inRange k z.rows.length) (nd (okSeen (sub (z.rows.getD k.toNat []) 0 3)) (nd (inRange k rows.length) (nx [z,x2,.l (rows.set k.toNat (cpSeen (sub (z.rows.getD k.toNat []) 0 3))),.i (w64 (k+1))]))) else ex 0 [z,x2,.l rows,.i k]:=by kernel_rfl
theorem toSeenSd_ev (p:List D) (N:Nat):evFn Tryz.prog (find [toSeenE]) N [0,2,3,4,11] Tryz.f251 (.one (.c (.own (0,0) true 130))) [⟨sd (.sl 317),p⟩]=some (bo,nd (decide (0≤((gd p 0).rows.length:Int))&&decide (((gd p 0).rows.length:Int)=((gd p 0).rows.length:Int))&&decide (((gd p 0).rows.length:Int)≤4294967296)&&true&&true)
  (let o:=iter (toSeenSdL N p) N [gd p 0,.l [],.l (List.replicate (gd p 0).rows.length [.i 0,.i 0,.i 0]),.i 0]
   nd o.isSome (nd (o.code==2) (some (1,[gd o.pay 2]))))):=by kernel_rfl
def toSeenSdE:Ent:=(251,e1 (sd (.sl 317)) fun p=>(⟨.one (.c (.own (0,0) true 130)),[cpSeenS (gd p 0)]⟩,okSeenS (gd p 0)))
theorem toSeenSd_ok:EntOk Tryz.prog toSeenSdE:=e1_ok fun p h=>evFn_sound (N:=(gd p 0).rows.length+1) (ks:= [0,2,3,4,11]) (key:=bo) (find_ok (fC ⟨toSeen_ok,fN⟩)) (enters Tryz.func251) Tryz.func251 fun hw=>by
 have h:okSeenS (gd p 0)=true:=h
 simp only [okSeenS,Bool.and_eq_true,decide_eq_true_eq,List.all_eq_true] at h
 rw [toSeenSd_ev,fill_loop (ok:=fun r=>okSeen (sub r 0 3)) (f:=fun r=>cpSeen (sub r 0 3)) [.i 0,.i 0,.i 0] (wt_sl (hw ⟨sd (.sl 317),p⟩ (by simp))) h.2 (toSeenSd_rd p _ _ _) (by omega)]
 rw [show decide (((gd p 0).rows.length:Int)≤4294967296)=true from decide_eq_true (by omega),show decide (0≤((gd p 0).rows.length:Int))=true from decide_eq_true (by omega),decide_eq_true (rfl:((gd p 0).rows.length:Int)=_)]
 rfl
theorem toClientd_ev (p:List D) (N:Nat):evFn Tryz.prog (find [toWriteSdE,toSeenSdE,toPartSdE]) N [0,1,2,3] Tryz.f152 (.one (.agg rDClient)) [⟨ag rLClient,p⟩]=some (bo,nd (okWriteS (gd p 3)) (nd (okSeenS (gd p 4)) (nd (okPartS (gd p 8)) (some (1,cpClient p))))):=by kernel_rfl
def toClientdE:Ent:=(152,e1 (ag rLClient) fun p=>(⟨.one (.agg rDClient),cpClient p⟩,okClient p))
theorem toClientd_ok:EntOk Tryz.prog toClientdE:=e1_ok fun p h=>evFn_sound (N:=0) (ks:= [0,1,2,3]) (key:=bo) (find_ok (fC ⟨toWriteSd_ok,fC ⟨toSeenSd_ok,fC ⟨toPartSd_ok,fN⟩⟩⟩)) (enters Tryz.func152) Tryz.func152 fun _=>by
 have h:okClient p=true:=h
 simp only [okClient,Bool.and_eq_true] at h
 rw [toClientd_ev]
 simp only [nd,h,cond_true]
noncomputable def toClientSdL (N:Nat) (p:List D):List D→Out:=loopOf Tryz.prog (find [toClientdE,deepE [7]]) N [0,2,3,4,11] Tryz.f57 (.one (.c (.own (0,1000000) true 102))) [⟨sd (.sl 160),p⟩] 0
theorem toClientSd_rd (p:List D) (N:Nat) (z x2:D) (rows:List (List D)) (k:Int):toClientSdL N p [z,x2,.l rows,.i k]=bif decide (k<z.rows.length) then nd (inRange k z.rows.length) (nd (okClient (sub (z.rows.getD k.toNat []) 0 9)) (nd (inRange k rows.length) (nx [z,x2,.l (rows.set k.toNat (cpClient (sub (z.rows.getD k.toNat []) 0 9))),.i (w64 (k+1))]))) else ex 0 [z,x2,.l rows,.i k]:=by kernel_rfl
theorem toClientSd_ev (p:List D) (N:Nat):evFn Tryz.prog (find [toClientdE,deepE [7]]) N [0,2,3,4,11] Tryz.f57 (.one (.c (.own (0,1000000) true 102))) [⟨sd (.sl 160),p⟩]=some (bo,nd (decide (0≤((gd p 0).rows.length:Int))&&decide (((gd p 0).rows.length:Int)=((gd p 0).rows.length:Int))&&decide (((gd p 0).rows.length:Int)≤4294967296)&&true&&true)
  (let o:=iter (toClientSdL N p) N [gd p 0,.l [],.l (List.replicate (gd p 0).rows.length [.i 0,.i 0,.i 0,.l [],.l [],.i 0,.i 0,.i 0,.l []]),.i 0]
   nd o.isSome (nd (o.code==2) (some (1,[gd o.pay 2]))))):=by kernel_rfl
def toClientSdE:Ent:=(57,e1 (sd (.sl 160)) fun p=>(⟨.one (.c (.own (0,1000000) true 102)),[cpClientS (gd p 0)]⟩,okClientS (gd p 0)))
theorem toClientSd_ok:EntOk Tryz.prog toClientSdE:=e1_ok fun p h=>evFn_sound (N:=(gd p 0).rows.length+1) (ks:= [0,2,3,4,11]) (key:=bo) (find_ok (fC ⟨toClientd_ok,fC ⟨deepE_ok _,fN⟩⟩)) (enters Tryz.func57) Tryz.func57 fun hw=>by
 have h:okClientS (gd p 0)=true:=h
 simp only [okClientS,Bool.and_eq_true,decide_eq_true_eq,List.all_eq_true] at h
 rw [toClientSd_ev,fill_loop (ok:=fun r=>okClient (sub r 0 9)) (f:=fun r=>cpClient (sub r 0 9)) [.i 0,.i 0,.i 0,.l [],.l [],.i 0,.i 0,.i 0,.l []] (wt_sl (hw ⟨sd (.sl 160),p⟩ (by simp))) h.2 (toClientSd_rd p _ _ _) (by omega)]
 rw [show decide (((gd p 0).rows.length:Int)≤4294967296)=true from decide_eq_true (by omega),show decide (0≤((gd p 0).rows.length:Int))=true from decide_eq_true (by omega),decide_eq_true (rfl:((gd p 0).rows.length:Int)=_)]
 rfl
theorem toLetterd_ev (p:List D) (N:Nat):evFn Tryz.prog (find [toRangeSdE,toWriteSdE,toCellSdE,toShareSdE]) N [0,1,2,3] Tryz.f153 (.one (.agg rDLetter)) [⟨ag rLLetter,p⟩]=some (bo,nd (okRangeS (gd p 10)) (nd (okWriteS (gd p 11)) (nd (okCellS (gd p 12)) (nd (okShareS (gd p 13)) (some (1,cpLetter p)))))):=by kernel_rfl
def toLetterdE:Ent:=(153,e1 (ag rLLetter) fun p=>(⟨.one (.agg rDLetter),cpLetter p⟩,okLetter p))
theorem toLetterd_ok:EntOk Tryz.prog toLetterdE:=e1_ok fun p h=>evFn_sound (N:=0) (ks:= [0,1,2,3]) (key:=bo) (find_ok (fC ⟨toRangeSd_ok,fC ⟨toWriteSd_ok,fC ⟨toCellSd_ok,fC ⟨toShareSd_ok,fN⟩⟩⟩⟩)) (enters Tryz.func153) Tryz.func153 fun _=>by
 have h:okLetter p=true:=h
 simp only [okLetter,Bool.and_eq_true] at h
 rw [toLetterd_ev]
 simp only [nd,h,cond_true]
noncomputable def toLetterSdL (N:Nat) (p:List D):List D→Out:=loopOf Tryz.prog (find [toLetterdE,deepE [7]]) N [0,2,3,4,11] Tryz.f58 (.one (.c (.own (0,1000000) true 85))) [⟨sd (.sl 164),p⟩] 0
theorem toLetterSd_rd (p:List D) (N:Nat) (z x2:D) (rows:List (List D)) (k:Int):toLetterSdL N p [z,x2,.l rows,.i k]=bif decide (k<z.rows.length) then nd (inRange k z.rows.length) (nd (okLetter (sub (z.rows.getD k.toNat []) 0 14)) (nd (inRange k rows.length) (nx [z,x2,.l (rows.set k.toNat (cpLetter (sub (z.rows.getD k.toNat []) 0 14))),.i (w64 (k+1))]))) else ex 0 [z,x2,.l rows,.i k]:=by kernel_rfl
theorem toLetterSd_ev (p:List D) (N:Nat):evFn Tryz.prog (find [toLetterdE,deepE [7]]) N [0,2,3,4,11] Tryz.f58 (.one (.c (.own (0,1000000) true 85))) [⟨sd (.sl 164),p⟩]=some (bo,nd (decide (0≤((gd p 0).rows.length:Int))&&decide (((gd p 0).rows.length:Int)=((gd p 0).rows.length:Int))&&decide (((gd p 0).rows.length:Int)≤4294967296)&&true&&true)
  (let o:=iter (toLetterSdL N p) N [gd p 0,.l [],.l (List.replicate (gd p 0).rows.length [.i 0,.i 0,.i 0,.i 0,.i 0,.i 0,.i 0,.i 0,.i 0,.b false,.l [],.l [],.l [],.l []]),.i 0]
   nd o.isSome (nd (o.code==2) (some (1,[gd o.pay 2]))))):=by kernel_rfl
def toLetterSdE:Ent:=(58,e1 (sd (.sl 164)) fun p=>(⟨.one (.c (.own (0,1000000) true 85)),[cpLetterS (gd p 0)]⟩,okLetterS (gd p 0)))
theorem toLetterSd_ok:EntOk Tryz.prog toLetterSdE:=e1_ok fun p h=>evFn_sound (N:=(gd p 0).rows.length+1) (ks:= [0,2,3,4,11]) (key:=bo) (find_ok (fC ⟨toLetterd_ok,fC ⟨deepE_ok _,fN⟩⟩)) (enters Tryz.func58) Tryz.func58 fun hw=>by
 have h:okLetterS (gd p 0)=true:=h
 simp only [okLetterS,Bool.and_eq_true,decide_eq_true_eq,List.all_eq_true] at h
 rw [toLetterSd_ev,fill_loop (ok:=fun r=>okLetter (sub r 0 14)) (f:=fun r=>cpLetter (sub r 0 14)) [.i 0,.i 0,.i 0,.i 0,.i 0,.i 0,.i 0,.i 0,.i 0,.b false,.l [],.l [],.l [],.l []] (wt_sl (hw ⟨sd (.sl 164),p⟩ (by simp))) h.2 (toLetterSd_rd p _ _ _) (by omega)]
 rw [show decide (((gd p 0).rows.length:Int)≤4294967296)=true from decide_eq_true (by omega),show decide (0≤((gd p 0).rows.length:Int))=true from decide_eq_true (by omega),decide_eq_true (rfl:((gd p 0).rows.length:Int)=_)]
 rfl
theorem toTownd_ev (p:List D) (N:Nat):evFn Tryz.prog (find [toAtlasdE,toShardSdE,toCoorddE,toClientSdE,toLetterSdE,toEventSdE]) N [0,1,2,3] Tryz.f15 (.one (.agg rDTown)) [⟨ag rLTown,p⟩]=some (bo,nd (okAtlas (sub p 0 9)) (nd (okShardS (gd p 9)) (nd (okCoord (sub p 10 2)) (nd (okClientS (gd p 12)) (nd (okLetterS (gd p 13)) (nd (okEventS (gd p 14)) (some (1,cpTown p)))))))):=by kernel_rfl
def toTowndE:Ent:=(15,e1 (ag rLTown) fun p=>(⟨.one (.agg rDTown),cpTown p⟩,okTown p))
theorem toTownd_ok:EntOk Tryz.prog toTowndE:=e1_ok fun p h=>evFn_sound (N:=0) (ks:= [0,1,2,3]) (key:=bo) (find_ok (fC ⟨toAtlasd_ok,fC ⟨toShardSd_ok,fC ⟨toCoordd_ok,fC ⟨toClientSd_ok,fC ⟨toLetterSd_ok,fC ⟨toEventSd_ok,fN⟩⟩⟩⟩⟩⟩)) (enters Tryz.func15) Tryz.func15 fun _=>by
 have h:okTown p=true:=h
 simp only [okTown,Bool.and_eq_true] at h
 rw [toTownd_ev]
 simp only [nd,h,cond_true]
end Go.Proofs.YtchceahcaaibcaaGreat
namespace Go.Proofs.YtchceahcaaibcaaGreat
def eM (s:Sh) (F:List D→D→T × Bool):List T→Option (T × Bool)
 | [v,⟨.one (.c (.d (.int .i64))),[kd]⟩]=>bif v.sh==s then some (F v.p kd) else none
 | _=>none
theorem eM_ok {P:Program} {f:FuncId} {s:Sh} {F:List D→D→T × Bool} (h:∀ p q,(F p q).2=true→SoundFn P f [⟨s,p⟩,.c (.d (.int .i64)) q] (F p q).1):EntOk P (f,eM s F):=by
 intro args r hr0
 have hr:eM s F args=some (r,true):=hr0
 clear hr0
 unfold eM at hr
 split at hr
 ·rename_i v kd
  cases hb:(v.sh==s) with
  | false=>rw [hb] at hr; cases hr
  | true =>
   rw [hb,cond_true,Option.some.injEq] at hr
   obtain ⟨sh,p⟩:=v
   have e:sh=s:=by simpa using hb
   subst e
   have:=h p kd
   rw [hr] at this
   exact this rfl
 ·cases hr
inductive Fld where
 | i (off:Nat)
 | b (off:Nat)
 | m (off:Nat) (F:List D→D→List D) (c:D→Nat)
def stF (w:Nat) (f:Fld) (r:List D) (k:D):List D × D:=
 match f with
 | .i off=>(setSub (sub r 0 w) off [k],.i (w64 (k.int+1)))
 | .b off=>(setSub (sub r 0 w) off [.b (k.int.tmod 3==0)],.i (w64 (k.int+1)))
 | .m off F _=>(setSub (sub r 0 w) off [gd (F [gd r off] k) 1],gd (F [gd r off] k) 0)
def rowF (w:Nat):List Fld→List D→D→List D × D
 | [],r,k=>(r,k)
 | f::fs,r,k=>rowF w fs (stF w f r k).1 (stF w f r k).2
def rnd (w:Nat) (i:Int):List Fld→List (List D)→D→(List (List D)→D→Out)→Out
 | [],rows,k,K=>K rows k
 | f::fs,rows,k,K=>nd (inRange i rows.length) (rnd w i fs (rows.set i.toNat (stF w f (rows.getD i.toNat []) k).1) (stF w f (rows.getD i.toNat []) k).2 K)
theorem getD_set_self {l:List (List D)} {i:Nat} {a:List D} (h:i<l.length):(l.set i a).getD i []=a:=by
 simp [List.getD_eq_getElem?_getD,h]
theorem rnd_eq {w i:Nat} {K:List (List D)→D→Out}:∀ {fs:List Fld} {rows:List (List D)} {k:D},i<rows.length→rnd w (i:Int) fs rows k K=K (rows.set i (rowF w fs (rows.getD i []) k).1) (rowF w fs (rows.getD i []) k).2
 | [],rows,k,h=>by
  simp only [rnd,rowF]
  congr 1
  rw [List.getD_eq_getElem?_getD,List.getElem?_eq_getElem h]
  simp
 | f::fs,rows,k,h=>by
  simp only [rnd,rowF,Int.toNat_natCast]
  rw [nd_ix h,rnd_eq (by simpa using h),getD_set_self h,List.set_set]
def mkTo (f:List D→D→List D × D) (rows:List (List D)) (k:D):Nat→List (List D) × D
 | 0=>(rows,k)
 | j+1=>((mkTo f rows k j).1.set j (f ((mkTo f rows k j).1.getD j []) (mkTo f rows k j).2).1,(f ((mkTo f rows k j).1.getD j []) (mkTo f rows k j).2).2)
theorem mkTo_len (f:List D→D→List D × D) (rows:List (List D)) (k:D):∀ j,(mkTo f rows k j).1.length=rows.length
 | 0=>rfl
 | j+1=>by simp [mkTo,mkTo_len f rows k j]
theorem mkTo_hi (f:List D→D→List D × D) (rows:List (List D)) (k:D):∀ j i,j≤i→(mkTo f rows k j).1.getD i []=rows.getD i []
 | 0,i,_=>rfl
 | j+1,i,h=>by
  rw [← mkTo_hi f rows k j i (by omega)]
  simp only [mkTo,List.getD_eq_getElem?_getD,List.getElem?_set]
  rw [if_neg (by omega)]
def mkZ (f:List D→D→List D × D) (z k:D):Nat→D
 | 0=>z
 | j+1=>.l (mkTo f z.rows k (j+1)).1
theorem mkZ_rows (f:List D→D→List D × D) (z k:D):∀ j,(mkZ f z k j).rows=(mkTo f z.rows k j).1
 | 0=>rfl
 | _+1=>rfl
def mkAll (f:List D→D→List D × D) (z k:D):List D:= [(mkTo f z.rows k z.rows.length).2,mkZ f z k z.rows.length]
theorem mk_loop {L:List D→Out} {w:Nat} {fs:List Fld} {x2:D} (h:∀ x0 x1 x3,L [x0,x1,x2,x3]=bif ltI x3.int (x0.rows.length:Int) then rnd w x3.int fs x0.rows x1 (fun rows k=>nx [.l rows,k,x2,.i (w64 (x3.int+1))]) else ex 0 [x0,x1,x2,x3]) {z k:D} (hl:z.rows.length≤9223372036854775807) :
  iter L (z.rows.length+1) [z,k,x2,.i 0]=some (2,[mkZ (rowF w fs) z k z.rows.length,(mkTo (rowF w fs) z.rows k z.rows.length).2,x2,.i (z.rows.length:Int)]):=by
 have e:=run_loop (L:=L) (fun j => [mkZ (rowF w fs) z k j,(mkTo (rowF w fs) z.rows k j).2,x2,.i (j:Int)]) z.rows.length 0 (fun j hj=>?_) ?_ (N:=z.rows.length+1) (by omega)
 ·simp only [Int.natCast_zero,Nat.zero_add] at e
  exact e
 ·have hlen:=mkTo_len (rowF w fs) z.rows k j
  rw [h]
  simp only [int_i,mkZ_rows,hlen,c_lt hj]
  rw [rnd_eq (by rw [hlen]; exact hj),w64_succ hj hl]
  rfl
 ·have hlen:=mkTo_len (rowF w fs) z.rows k z.rows.length
  rw [h]
  simp only [int_i,mkZ_rows,hlen,c_nlt]
theorem mk_sound {P:Program} {call:FuncId→List T→Option (T × Bool)} (hcall:CallOk P call) {ks:List Nat} {f:FuncId} {fn:Func} {e:TypeId} {p:List D} {q:D} {L:Nat→List D→D→List D→Out} {w:Nat} {fs:List Fld} (hen:∀ vs w,(callFunc f vs).run P w=.ok (.enter f vs) w) (hf:P.funcs[f]?=some fn)
  (hR:∀ N x0 x1 x2 x3,L N p q [x0,x1,x2,x3]=bif ltI x3.int (x0.rows.length:Int) then rnd w x3.int fs x0.rows x1 (fun rows k=>nx [.l rows,k,x2,.i (w64 (x3.int+1))]) else ex 0 [x0,x1,x2,x3])
  (hev:∀ N,evFnM P call N ks fn [⟨.one (.c (.d (.sl e))),p⟩,.c (.d (.int .i64)) q]=some (bo,(let o0:=iter (L N p q) N [gd p 0,q,.i 0,.i 0]; nd o0.isSome (nd (o0.code==2) (some (1,[gd o0.pay 1,gd o0.pay 0])))))) :
  SoundFn P f [⟨.one (.c (.d (.sl e))),p⟩,.c (.d (.int .i64)) q] ⟨shM,mkAll (rowF w fs) (gd p 0) q⟩:=by
 refine evFnM_sound (N:=(gd p 0).rows.length+1) (ks:=ks) (key:=bo) hcall hen hf fun hw=>?_
 have hl:(gd p 0).rows.length≤9223372036854775807:=by
  have hw:WD P (.sl e) (gd p 0):=hw
  cases hw with
  | sl _ _ _ _ h _=>exact h
 rw [hev,mk_loop (fun x0 x1 x3=>hR _ x0 x1 _ x3) hl]
 rfl
def Fld.off:Fld→Nat
 | .i o=>o
 | .b o=>o
 | .m o _ _=>o
def cF (r:List D):Fld→Nat
 | .i _=>1
 | .b _=>1
 | .m o _ c=>c (gd r o)
def cFs:List Fld→List D→Nat
 | [],_=>0
 | f::fs,r=>cF r f+cFs fs r
def FldOk (w:Nat):Fld→Prop
 | .i o=>o<w
 | .b o=>o<w
 | .m o F c=>o<w∧∀ x q:D,0≤q.int→q.int+c x≤4611686018427387904→(gd (F [x] q) 0).int=q.int+c x
def FldsOk (w:Nat):List Fld→Prop
 | []=>True
 | f::fs=>FldOk w f∧FldsOk w fs
def apartF:List Fld→Bool
 | []=>true
 | f::fs=>fs.all (fun g=>f.off != g.off)&&apartF fs
theorem FldOk.lt {w:Nat} {f:Fld} (h:FldOk w f):f.off<w:=by
 cases f <;> first | exact h | exact h.1
theorem gd_stF {w:Nat} {f:Fld} {r:List D} {k:D} {j:Nat} (h:f.off≠j) (hj:j<w):gd (stF w f r k).1 j=gd r j:=by
 have key:∀ (o:Nat) (d:D),o≠j→gd (setSub (sub r 0 w) o [d]) j=gd r j:=fun o d ho=>by
  show gd ((sub r 0 w).set o d) j=_
  have:gd ((sub r 0 w).set o d) j=gd (sub r 0 w) j:=by
   simp only [gd,List.getD_eq_getElem?_getD,List.getElem?_set,if_neg ho]
  rw [this,gd_sub _ _ _ _ hj,Nat.zero_add]
 cases f with
 | i o=>exact key o _ h
 | b o=>exact key o _ h
 | m o F c=>exact key o _ h
theorem cFs_congr {w:Nat} {r r':List D}:∀ {fs:List Fld},FldsOk w fs→(∀ f∈fs,gd r' f.off=gd r f.off)→cFs fs r'=cFs fs r
 | [],_,_=>rfl
 | f::fs,hok,h=>by
  have h1:cF r' f=cF r f:=by
   have:=h f (by simp)
   cases f with
   | i o=>rfl
   | b o=>rfl
   | m o F c=>show c (gd r' o)=c (gd r o); rw [show gd r' o=gd r o from this]
  simp only [cFs,h1,cFs_congr hok.2 fun g hg=>h g (by simp [hg])]
theorem FldsOk.mem {w:Nat}:∀ {fs:List Fld},FldsOk w fs→∀ f∈fs,FldOk w f
 | [],_,f,h=>by simp at h
 | g::fs,hok,f,h=>by
  rcases List.mem_cons.1 h with rfl | h
  ·exact hok.1
  ·exact hok.2.mem f h
theorem rowF_k {w:Nat}:∀ {fs:List Fld} {r:List D} {k:D},apartF fs=true→FldsOk w fs→0≤k.int→k.int+cFs fs r≤4611686018427387904→(rowF w fs r k).2.int=k.int+cFs fs r
 | [],r,k,_,_,_,_=>by simp [rowF,cFs]
 | f::fs,r,k,ha,hok,h0,h1=>by
  simp only [apartF,Bool.and_eq_true,List.all_eq_true] at ha
  simp only [cFs] at h1
  push_cast at h1
  have hc:cFs fs (stF w f r k).1=cFs fs r:=cFs_congr hok.2 fun g hg=>gd_stF (by simpa using ha.1 g hg) (hok.2.mem g hg).lt
  have hk:(stF w f r k).2.int=k.int+cF r f:=by
   cases f with
   | i o=>show w64 (k.int+1)=k.int+((1:Nat):Int); simp only [cF] at h1; rw [w64_id (by omega) (by omega)]; rfl
   | b o=>show w64 (k.int+1)=k.int+((1:Nat):Int); simp only [cF] at h1; rw [w64_id (by omega) (by omega)]; rfl
   | m o F c=>simp only [cF] at h1; exact hok.1.2 _ _ h0 (by omega)
  have:=rowF_k (r:=(stF w f r k).1) (k:=(stF w f r k).2) ha.2 hok.2 (by omega) (by rw [hc]; omega)
  simp only [rowF,cFs]
  push_cast
  omega
theorem total_take {f:List D→Nat} (rows:List (List D)):∀ j,j<rows.length→total f (rows.take (j+1))=total f (rows.take j)+f (rows.getD j []):=fun j hj=>by
 unfold total
 rw [List.take_add_one,List.map_append,List.sum_append,List.getElem?_eq_getElem hj]
 simp [List.getD_eq_getElem?_getD,hj]
theorem total_take_le {f:List D→Nat} (rows:List (List D)) (j:Nat):total f (rows.take j)≤total f rows:=by
 unfold total
 conv=>rhs; rw [← List.take_append_drop j rows]
 rw [List.map_append,List.sum_append]
 omega
theorem mkAll_k {w:Nat} {fs:List Fld} {x q:D} (ha:apartF fs=true) (hok:FldsOk w fs) (h0:0≤q.int) (h1:q.int+total (cFs fs) x.rows≤4611686018427387904):(gd (mkAll (rowF w fs) x q) 0).int=q.int+total (cFs fs) x.rows:=by
 have key:∀ j,j≤x.rows.length→(mkTo (rowF w fs) x.rows q j).2.int=q.int+total (cFs fs) (x.rows.take j):=by
  intro j
  induction j with
  | zero=>intro _; simp [mkTo,total]
  | succ j ih =>
   intro hj
   have ih:=ih (by omega)
   have ht:=total_take (f:=cFs fs) x.rows j (by omega)
   have hle:=total_take_le (f:=cFs fs) x.rows (j+1)
   simp only [mkTo]
   rw [mkTo_hi _ _ _ j j (Nat.le_refl _),rowF_k ha hok (by omega) (by omega),ih,ht]
   push_cast
   omega
 have:=key x.rows.length (Nat.le_refl _)
 rw [List.take_length] at this
 exact this
theorem bd_flat {fs:List Fld} {f:List D→List D} (h:∀ r,cFs fs (f r)≤16) (z:D):total (cFs fs) (D.l (z.rows.map fun r=>f r)).rows≤16*z.rows.length:=by
 show total (cFs fs) (z.rows.map fun r=>f r)≤_
 generalize z.rows=l
 induction l with
 | nil=>simp [total]
 | cons r l ih =>
  have:=h r
  simp only [total,List.map_cons,List.sum_cons,List.length_cons] at ih ⊢
  omega
theorem bd_deep {fs:List Fld} {f:List D→List D} {s:List D→Nat} (h:∀ r,cFs fs (f r)≤16+16*s r) (z:D):total (cFs fs) (D.l (z.rows.map fun r=>f r)).rows≤16*(z.rows.length+total s z.rows):=by
 show total (cFs fs) (z.rows.map fun r=>f r)≤_
 generalize z.rows=l
 induction l with
 | nil=>simp [total]
 | cons r l ih =>
  have:=h r
  simp only [total,List.map_cons,List.sum_cons,List.length_cons] at ih ⊢
  omega
end Go.Proofs.YtchceahcaaibcaaGreat
namespace Go.Proofs.YtchceahcaaibcaaGreat
inductive Fh where
 | i (off:Nat)
 | b (off:Nat)
 | m (off:Nat) (G:D→D→D)
def hrnd (i:Int) (rows:List (List D)):List Fh→D→(D→Out)→Out
 | [],k,K=>K k
 | .i off::fs,k,K=>nd (inRange i rows.length) (bif (gd (rows.getD i.toNat []) off).int != k.int then oi (-1) else hrnd i rows fs (.i (w64 (k.int+1))) K)
 | .b off::fs,k,K=>nd (inRange i rows.length) (bif !((gd (rows.getD i.toNat []) off).bool==(k.int.tmod 3==0)) then oi (-1) else hrnd i rows fs (.i (w64 (k.int+1))) K)
 | .m off G::fs,k,K=>nd (inRange i rows.length) (bif ltI (G (gd (rows.getD i.toNat []) off) k).int 0 then oi (-1) else hrnd i rows fs (G (gd (rows.getD i.toNat []) off) k) K)
def hdRow (r:List D):List Fh→D→Option D
 | [],k=>some k
 | .i off::fs,k=>bif (gd r off).int != k.int then none else hdRow r fs (.i (w64 (k.int+1)))
 | .b off::fs,k=>bif !((gd r off).bool==(k.int.tmod 3==0)) then none else hdRow r fs (.i (w64 (k.int+1)))
 | .m off G::fs,k=>bif ltI (G (gd r off) k).int 0 then none else hdRow r fs (G (gd r off) k)
theorem hrnd_eq {i:Nat} {rows:List (List D)} {K:D→Out} (hi:i<rows.length):∀ {fs:List Fh} {k:D},hrnd (i:Int) rows fs k K=(match hdRow (rows.getD i []) fs k with | some k'=>K k' | none=>oi (-1))
 | [],k=>rfl
 | .i off::fs,k=>by
  simp only [hrnd,hdRow,Int.toNat_natCast,nd_ix hi]
  cases ((gd (rows.getD i []) off).int != k.int)
  ·simp only [cond_false]; exact hrnd_eq hi
  ·rfl
 | .b off::fs,k=>by
  simp only [hrnd,hdRow,Int.toNat_natCast,nd_ix hi]
  cases (!((gd (rows.getD i []) off).bool==(k.int.tmod 3==0)))
  ·simp only [cond_false]; exact hrnd_eq hi
  ·rfl
 | .m off G::fs,k=>by
  simp only [hrnd,hdRow,Int.toNat_natCast,nd_ix hi]
  cases (ltI (G (gd (rows.getD i []) off) k).int 0)
  ·simp only [cond_false]; exact hrnd_eq hi
  ·rfl
def hdTo (fs:List Fh) (rows:List (List D)) (q:D):Nat→D
 | 0=>q
 | j+1=>(hdRow (rows.getD j []) fs (hdTo fs rows q j)).getD D0
def hdC (fs:List Fh) (rows:List (List D)) (q:D) (j:Nat):Bool:=(hdRow (rows.getD j []) fs (hdTo fs rows q j)).isSome
def hdAll (fs:List Fh) (z q:D):D:=bif (List.range z.rows.length).all (hdC fs z.rows q) then hdTo fs z.rows q z.rows.length else .i (-1)
theorem hd_sound {P:Program} {call:FuncId→List T→Option (T × Bool)} (hcall:CallOk P call) {ks:List Nat} {f:FuncId} {fn:Func} {e:TypeId} {p q:List D} {L:Nat→List D→List D→List D→Out} {fs:List Fh} (hen:∀ vs w,(callFunc f vs).run P w=.ok (.enter f vs) w) (hf:P.funcs[f]?=some fn)
  (hR:∀ N x0 x1 x2 x3,L N p q [x0,x1,x2,x3]=bif ltI x3.int (x0.rows.length:Int) then hrnd x3.int x0.rows fs x1 (fun k=>nx [x0,k,x2,.i (w64 (x3.int+1))]) else ex 0 [x0,x1,x2,x3])
  (hev:∀ N,evFn P call N ks fn ri [⟨.one (.c (.d (.sl e))),p⟩,⟨ri,q⟩]=some (bo,(let o0:=iter (L N p q) N [gd p 0,gd q 0,.i 0,.i 0]; nd o0.isSome (bif o0.code==1 then some (1,o0.pay) else nd (o0.code==2) (some (1,[gd o0.pay 1])))))) :
  SoundFn P f [⟨.one (.c (.d (.sl e))),p⟩,⟨ri,q⟩] ⟨ri,[hdAll fs (gd p 0) (gd q 0)]⟩:=by
 refine evFn_sound (N:=(gd p 0).rows.length+1) (ks:=ks) (key:=bo) hcall hen hf fun hw=>?_
 have hl:(gd p 0).rows.length≤9223372036854775807:=by
  have hw:WD P (.sl e) (gd p 0):=hw ⟨.one (.c (.d (.sl e))),p⟩ (by simp)
  cases hw with
  | sl _ _ _ _ h _=>exact h
 rw [hev]
 have e:=for_loop (L:=L ((gd p 0).rows.length+1) p q) (fun j => [gd p 0,hdTo fs (gd p 0).rows (gd q 0) j,.i 0,.i (j:Int)]) (gd p 0).rows.length (hdC fs (gd p 0).rows (gd q 0)) [.i (-1)] 0 (fun j hj=>?_) ?_ (N:=(gd p 0).rows.length+1) (by omega)
 ·simp only [Int.natCast_zero,Nat.zero_add] at e
  rw [show hdTo fs (gd p 0).rows (gd q 0) 0=gd q 0 from rfl] at e
  rw [e]
  unfold hdAll
  cases (List.range (gd p 0).rows.length).all (hdC fs (gd p 0).rows (gd q 0)) <;> rfl
 ·rw [hR]
  simp only [int_i,c_lt hj]
  rw [hrnd_eq hj,w64_succ hj hl]
  unfold hdC
  simp only [hdTo]
  cases hdRow ((gd p 0).rows.getD j []) fs (hdTo fs (gd p 0).rows (gd q 0) j) <;> rfl
 ·rw [hR]
  simp only [int_i,c_nlt]
def Fh.off:Fh→Nat
 | .i o=>o
 | .b o=>o
 | .m o _=>o
def pairF:Fld→Fh→Prop
 | .i o,.i o'=>o=o'
 | .b o,.b o'=>o=o'
 | .m o F c,.m o' G=>o=o'∧∀ x q:D,0≤q.int→q.int+c x≤4611686018427387904→G (gd (F [x] q) 1) q=gd (F [x] q) 0
 | _,_=>False
def pairFs:List Fld→List Fh→Prop
 | [],[]=>True
 | f::fs,h::hs=>pairF f h∧pairFs fs hs
 | _,_=>False
theorem pairFs.offs:∀ {fs:List Fld} {hs:List Fh},pairFs fs hs→hs.map Fh.off=fs.map Fld.off
 | [],[],_=>rfl
 | f::fs,h::hs,hp=>by
  have h1:h.off=f.off:=by
   have:=hp.1
   cases f <;> cases h <;> first | exact this.symm | exact this.1.symm | exact this.elim
  simp only [List.map_cons,h1,pairFs.offs hp.2]
 | [],_::_,hp=>hp.elim
 | _::_,[],hp=>hp.elim
theorem gd_rowF {w:Nat}:∀ {fs:List Fld} {r:List D} {k:D} {j:Nat},(∀ f∈fs,f.off≠j)→j<w→gd (rowF w fs r k).1 j=gd r j
 | [],r,k,j,_,_=>rfl
 | f::fs,r,k,j,h,hj=>by
  rw [rowF,gd_rowF (fun g hg=>h g (by simp [hg])) hj,gd_stF (h f (by simp)) hj]
theorem stF_at {w:Nat} {r:List D} {k:D}:∀ {f:Fld},f.off<w→gd (stF w f r k).1 f.off=(match f with | .i _=>k | .b _=>.b (k.int.tmod 3==0) | .m o F _=>gd (F [gd r o] k) 1):=by
 have key:∀ (o:Nat) (d:D),o<w→gd (setSub (sub r 0 w) o [d]) o=d:=fun o d ho=>by
  show gd ((sub r 0 w).set o d) o=d
  simp [gd,List.getD_eq_getElem?_getD,List.getElem?_set,sub_length,ho]
 intro f hf
 cases f with
 | i o=>exact key o _ hf
 | b o=>exact key o _ hf
 | m o F c=>exact key o _ hf
theorem held_row {w:Nat}:∀ {fs:List Fld} {hs:List Fh} {r:List D} {k:D},pairFs fs hs→apartF fs=true→FldsOk w fs→0≤k.int→k.int+cFs fs r≤4611686018427387904→hdRow (rowF w fs r k).1 hs k=some (rowF w fs r k).2
 | [],[],r,k,_,_,_,_,_=>rfl
 | [],_::_,_,_,hp,_,_,_,_=>hp.elim
 | _::_,[],_,_,hp,_,_,_,_=>hp.elim
 | f::fs,h::hs,r,k,hp,ha,hok,h0,h1=>by
  simp only [apartF,Bool.and_eq_true,List.all_eq_true] at ha
  simp only [cFs] at h1
  push_cast at h1
  have hc:cFs fs (stF w f r k).1=cFs fs r:=cFs_congr hok.2 fun g hg=>gd_stF (by simpa using ha.1 g hg) (hok.2.mem g hg).lt
  have hk:(stF w f r k).2.int=k.int+cF r f:=by
   cases f with
   | i o=>show w64 (k.int+1)=k.int+((1:Nat):Int); simp only [cF] at h1; rw [w64_id (by omega) (by omega)]; rfl
   | b o=>show w64 (k.int+1)=k.int+((1:Nat):Int); simp only [cF] at h1; rw [w64_id (by omega) (by omega)]; rfl
   | m o F c=>simp only [cF] at h1; exact hok.1.2 _ _ h0 (by omega)
  have ih:=held_row (r:=(stF w f r k).1) (k:=(stF w f r k).2) hp.2 ha.2 hok.2 (by omega) (by rw [hc]; omega)
  have hg:gd (rowF w fs (stF w f r k).1 (stF w f r k).2).1 f.off=gd (stF w f r k).1 f.off:=gd_rowF (fun g hg e=>by have:=ha.1 g hg; rw [e] at this; simp at this) hok.1.lt
  rw [stF_at hok.1.lt] at hg
  simp only [rowF]
  have hp1:=hp.1
  cases f with
  | i o =>
   cases h with
   | i o' =>
    have e:o=o':=hp1
    subst e
    simp only [Fld.off] at hg
    simp only [hdRow,hg,bne_self_eq_false,cond_false]
    exact ih
   | _=>exact hp1.elim
  | b o =>
   cases h with
   | b o' =>
    have e:o=o':=hp1
    subst e
    simp only [Fld.off] at hg
    simp only [hdRow,hg,bool_b,beq_self_eq_true,Bool.not_true,cond_false]
    exact ih
   | _=>exact hp1.elim
  | m o F c =>
   cases h with
   | m o' G =>
    obtain ⟨e,hG⟩:=hp1
    subst e
    simp only [Fld.off] at hg
    simp only [cF] at h1 hk
    have e1:=hG (gd r o) k h0 (by omega)
    simp only [hdRow,hg,e1]
    rw [show (gd (F [gd r o] k) 0)=(stF w (.m o F c) r k).2 from rfl,ltI_f (by omega),cond_false]
    exact ih
   | _=>exact hp1.elim
theorem held_all {w:Nat} {fs:List Fld} {hs:List Fh} {x q:D} (hp:pairFs fs hs) (ha:apartF fs=true) (hok:FldsOk w fs) (h0:0≤q.int) (h1:q.int+total (cFs fs) x.rows≤4611686018427387904):hdAll hs (gd (mkAll (rowF w fs) x q) 1) q=gd (mkAll (rowF w fs) x q) 0:=by
 show hdAll hs (mkZ (rowF w fs) x q x.rows.length) q=(mkTo (rowF w fs) x.rows q x.rows.length).2
 have hk:∀ j,j≤x.rows.length→(mkTo (rowF w fs) x.rows q j).2.int=q.int+total (cFs fs) (x.rows.take j):=by
  intro j
  induction j with
  | zero=>intro _; simp [mkTo,total]
  | succ j ih =>
   intro hj
   have ih:=ih (by omega)
   have ht:=total_take (f:=cFs fs) x.rows j (by omega)
   have hle:=total_take_le (f:=cFs fs) x.rows (j+1)
   simp only [mkTo]
   rw [mkTo_hi _ _ _ j j (Nat.le_refl _),rowF_k ha hok (by omega) (by omega),ih,ht]
   push_cast
   omega
 have hlo:∀ n j,j<n→n≤x.rows.length→(mkTo (rowF w fs) x.rows q n).1.getD j []=(rowF w fs (x.rows.getD j []) (mkTo (rowF w fs) x.rows q j).2).1:=by
  intro n
  induction n with
  | zero=>intro j hj; omega
  | succ n ih =>
   intro j hj hn
   simp only [mkTo]
   by_cases e:j=n
   ·subst e
    rw [getD_set_self (by rw [mkTo_len]; omega),mkTo_hi _ _ _ j j (Nat.le_refl _)]
   ·rw [← ih j (by omega) (by omega)]
    simp only [List.getD_eq_getElem?_getD,List.getElem?_set]
    rw [if_neg (by omega)]
 have hrow:∀ j,j<x.rows.length→hdRow ((mkTo (rowF w fs) x.rows q x.rows.length).1.getD j []) hs (mkTo (rowF w fs) x.rows q j).2=some (mkTo (rowF w fs) x.rows q (j+1)).2:=by
  intro j hj
  have ht:=total_take (f:=cFs fs) x.rows j (by omega)
  have hle:=total_take_le (f:=cFs fs) x.rows (j+1)
  have hkj:=hk j (by omega)
  rw [hlo _ j hj (Nat.le_refl _),held_row hp ha hok (by omega) (by omega)]
  simp only [mkTo]
  rw [mkTo_hi _ _ _ j j (Nat.le_refl _)]
 have hto:∀ j,j≤x.rows.length→hdTo hs (mkTo (rowF w fs) x.rows q x.rows.length).1 q j=(mkTo (rowF w fs) x.rows q j).2:=by
  intro j
  induction j with
  | zero=>intro _; rfl
  | succ j ih =>
   intro hj
   simp only [hdTo]
   rw [ih (by omega),hrow j (by omega)]
   rfl
 unfold hdAll
 rw [mkZ_rows,mkTo_len]
 have hall:(List.range x.rows.length).all (hdC hs (mkTo (rowF w fs) x.rows q x.rows.length).1 q)=true:=by
  rw [List.all_eq_true]
  intro j hj
  have hj:=List.mem_range.1 hj
  unfold hdC
  rw [hto j (by omega),hrow j hj]
  rfl
 rw [hall,cond_true,hto _ (Nat.le_refl _)]
end Go.Proofs.YtchceahcaaibcaaGreat
