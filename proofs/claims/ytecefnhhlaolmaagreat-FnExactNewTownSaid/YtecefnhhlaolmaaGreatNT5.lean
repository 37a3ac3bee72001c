/-
 Texts of the proof,put together: part 5.
-/
import Derived.Test.YtecefnhhlaolmaaGreatNT1
import Derived.Test.YtecefnhhlaolmaaGreatNT2
import Derived.Test.YtecefnhhlaolmaaGreatNT3
import Derived.Test.YtecefnhhlaolmaaGreatNT4
import Derived.Shelf.Sort.Plain
import Derived.Shelf.Slices.In.SortNone
import Derived.Shelf.Slices.CompactI
import Derived.Shelf.Slices.Clone
import Derived.Shelf.Spec.SlicesGrow
import Derived.Test.YtecefnhhlaolmaaGreatProg
import Derived.Lib.SlicesCompact
import Derived.Lib.RowBridge
set_option linter.unusedSimpArgs false
set_option linter.unusedVariables false
set_option linter.unusedSectionVars false
namespace Go.Proofs.YtecefnhhlaolmaaGreat
set_option maxRecDepth 4096
set_option maxHeartbeats 1000000
abbrev i_LocksHoldT:FuncId→List T→Option (T × Bool):=find [i_LocksOkE,i_RangeOkE,i_isModeE,cofLHE]
theorem i_LocksHoldT_ok:CallOk Tryz.prog i_LocksHoldT:=find_ok (fC ⟨i_LocksOk_ok,fC ⟨i_RangeOk_ok,fC ⟨i_isMode_ok,fC ⟨cofLH_ok,fN⟩⟩⟩⟩)
abbrev i_LocksHoldK:List Nat:= [0,1,2,3,5,6,7,8]
theorem i_LocksHold_ev (N:Nat) (p q r s:List D):evFn Tryz.prog i_LocksHoldT N i_LocksHoldK Tryz.f190 rb [⟨sd (.sl 133),p⟩,⟨ri,q⟩,⟨ag rIRange,r⟩,⟨ri,s⟩]=some (bo,
 bif locksOk (gd p 0) then bif rangeOk (sub r 0 2) then bif i_isModeF [(gd s 0)] then ob (anyS (fun rr=>ixfLHC (.l [[.l [[gd q 0]],.l [[gd s 0]],.l [sub r 0 2]]]) (sub rr 0 4)) (gd p 0))
 else ob false
 else ob false
 else ob false):=by kernel_rfl
def locksHold (z tx:D) (a:List D) (mode:D):Bool:=locksOk z&&(rangeOk a&&(i_isModeF [mode]&&anyS (fun r=>ixfLHC (.l [[.l [[tx]],.l [[mode]],.l [sub a 0 2]]]) (sub r 0 4)) z))
def i_LocksHoldE:Ent:=(190,e4 (sd (.sl 133)) ri (ag rIRange) ri fun p q r s=>(⟨rb,[.b (locksHold (gd p 0) (gd q 0) r (gd s 0))]⟩,true))
theorem i_LocksHold_ok:EntOk Tryz.prog i_LocksHoldE:=e4_ok fun p q r s h=>evFn_sound (N:=0) (ks:=i_LocksHoldK) (key:=bo) i_LocksHoldT_ok (enters Tryz.func190) Tryz.func190 fun hw=>by
 rw [i_LocksHold_ev]
 rw [show rangeOk (sub r 0 2)=rangeOk r from rfl]
 unfold locksHold
 cases locksOk (gd p 0) <;> try rfl
 cases rangeOk r <;> try rfl
 cases i_isModeF [gd s 0] <;> rfl
abbrev s_l12HoldsT:FuncId→List T→Option (T × Bool):=find [s_l12RangeE,s_RangeInE]
theorem s_l12HoldsT_ok:CallOk Tryz.prog s_l12HoldsT:=find_ok (fC ⟨s_l12Range_ok,fC ⟨s_RangeIn_ok,fN⟩⟩)
abbrev s_l12HoldsK:List Nat:= [0,1,2,3,6,8,9,13,40]
noncomputable def s_l12HoldsL0 (N:Nat) (p q r s:List D):List D→Out:=loopOf Tryz.prog s_l12HoldsT N s_l12HoldsK Tryz.f178 rb [⟨sd (.sl 133),p⟩,⟨ri,q⟩,⟨ag rIRange,r⟩,⟨ri,s⟩] 0
theorem s_l12HoldsR0 (N:Nat) (p q r s:List D) (x0 x1 x2 x3 x4 x5 x6 x7 x8 x9:D):(s_l12HoldsL0 N p q r s) [x0,x1,x2,x3,x4,x5,x6,x7,x8,x9] =
 bif ltI x7.int (x0.rows.length:Int) then nd (inRange x7.int x0.rows.length) (bif (gd (x0.rows.getD x7.int.toNat []) 0).int==x1.int then nd (inRange x7.int x0.rows.length) (bif s_RangeInF [x8,x9] [(gd (x0.rows.getD x7.int.toNat []) 1),(gd (x0.rows.getD x7.int.toNat []) 2)] then nd (inRange x7.int x0.rows.length) (bif leI x4.int (gd (x0.rows.getD x7.int.toNat []) 3).int then ob true
 else nx [x0,x1,x2,x3,x4,x5,x6,.i (w64 (x7.int+1)),x8,x9])
 else nx [x0,x1,x2,x3,x4,x5,x6,.i (w64 (x7.int+1)),x8,x9])
 else nx [x0,x1,x2,x3,x4,x5,x6,.i (w64 (x7.int+1)),x8,x9])
 else ex 0 [x0,x1,x2,x3,x4,x5,x6,x7,x8,x9]:=by kernel_rfl
theorem s_l12Holds_ev (N:Nat) (p q r s:List D):evFn Tryz.prog s_l12HoldsT N s_l12HoldsK Tryz.f178 rb [⟨sd (.sl 133),p⟩,⟨ri,q⟩,⟨ag rIRange,r⟩,⟨ri,s⟩]=some (bo,
 (let o0:=iter (s_l12HoldsL0 N p q r s) N [gd p 0,gd q 0,gd r 0,gd r 1,gd s 0,.i 0,.i 0,.i 0,gd r 0,gd r 1]
  nd o0.isSome (bif o0.code==1 then some (1,o0.pay)
  else nd (o0.code==2) (ob false)))):=by kernel_rfl
def holdS (r:List D) (tx:D) (a:List D) (mode:D):Bool:=((gd r 0).int==tx.int)&&(s_RangeInF a [gd r 1,gd r 2]&&leI mode.int (gd r 3).int)
def holds (z tx:D) (a:List D) (mode:D):Bool:=(List.range z.rows.length).any fun k=>holdS (z.rows.getD k []) tx a mode
theorem lock_row {z:D} (h:locksOk z=true) {k:Nat} (hk:k<z.rows.length):rangeOk [gd (z.rows.getD k []) 1,gd (z.rows.getD k []) 2]=true∧i_isModeF [gd (z.rows.getD k []) 3]=true:=by
 simp only [locksOk,Bool.and_eq_true,List.all_eq_true,List.mem_range] at h
 have:=h.1 k hk
 simp only [lockAt,Bool.and_eq_true] at this
 exact ⟨this.2.1,this.2.2.1⟩
theorem any_congr {n:Nat} {C C':Nat→Bool} (h:∀ k,k<n→C k=C' k):(List.range n).any C=(List.range n).any C':=by
 rw [Bool.eq_iff_iff]
 simp only [List.any_eq_true,List.mem_range]
 exact ⟨fun ⟨k,hk,hc⟩=>⟨k,hk,by rw [← h k hk]; exact hc⟩,fun ⟨k,hk,hc⟩=>⟨k,hk,by rw [h k hk]; exact hc⟩⟩
theorem all_congr {n:Nat} {C C':Nat→Bool} (h:∀ k,k<n→C k=C' k):(List.range n).all C=(List.range n).all C':=by
 rw [Bool.eq_iff_iff]
 simp only [List.all_eq_true,List.mem_range]
 exact ⟨fun hc k hk=>by rw [← h k hk]; exact hc k hk,fun hc k hk=>by rw [h k hk]; exact hc k hk⟩
theorem hold_same {z tx:D} {a:List D} (hz:locksOk z=true) (ha:rangeOk a=true):holds z tx a (.i 2)=locksHold z tx a (.i 2):=by
 unfold holds locksHold
 rw [hz,ha,Bool.true_and,Bool.true_and,show i_isModeF [.i 2]=true from rfl,Bool.true_and]
 unfold anyS
 refine any_congr fun k hk=>?_
 obtain ⟨h1,h2⟩:=lock_row hz hk
 show holdS (z.rows.getD k []) tx a (.i 2)=i_LocksHold_1F (sub (z.rows.getD k []) 0 4) [.l [[tx]]] [.l [[.i 2]]] [.l [sub a 0 2]]
 have e:i_LocksHold_1F (sub (z.rows.getD k []) 0 4) [.l [[tx]]] [.l [[.i 2]]] [.l [sub a 0 2]]=(bif (gd (z.rows.getD k []) 0).int==tx.int then bif (gd (z.rows.getD k []) 3).int==2 then bif leI (gd (z.rows.getD k []) 1).int (gd a 0).int then leI (gd a 1).int (gd (z.rows.getD k []) 2).int else false else bif (gd (z.rows.getD k []) 3).int==2 then bif leI (gd (z.rows.getD k []) 1).int (gd a 0).int then leI (gd a 1).int (gd (z.rows.getD k []) 2).int else false else false else false):=rfl
 rw [e]
 unfold holdS s_RangeInF
 rw [show rangeOk (sub a 0 2)=rangeOk a from rfl,ha,show rangeOk (sub [gd (z.rows.getD k []) 1,gd (z.rows.getD k []) 2] 0 2)=rangeOk [gd (z.rows.getD k []) 1,gd (z.rows.getD k []) 2] from rfl,h1]
 simp only [cond_true,gd_cons_zero,gd_cons_succ,int_i]
 have hm:leI 2 (gd (z.rows.getD k []) 3).int=((gd (z.rows.getD k []) 3).int==2):=by
  have h2:(bif (gd (z.rows.getD k []) 3).int==1 then true else (gd (z.rows.getD k []) 3).int==2)=true:=h2
  cases h3:(gd (z.rows.getD k []) 3).int==1
  ·rw [h3,cond_false] at h2
   rw [h2,eq_of_beq h2]; rfl
  ·rw [eq_of_beq h3]; rfl
 rw [hm]
 cases (gd (z.rows.getD k []) 0).int==tx.int <;> cases (gd (z.rows.getD k []) 3).int==2 <;> cases leI (gd (z.rows.getD k []) 1).int (gd a 0).int <;> cases leI (gd a 1).int (gd (z.rows.getD k []) 2).int <;> rfl
def s_l12HoldsE:Ent:=(178,e4 (sd (.sl 133)) ri (ag rIRange) ri fun p q r s=>(⟨rb,[.b (holds (gd p 0) (gd q 0) r (gd s 0))]⟩,true))
theorem s_l12Holds_ok:EntOk Tryz.prog s_l12HoldsE:=e4_ok fun p q r s h=>evFn_sound (N:=(gd p 0).rows.length+1) (ks:=s_l12HoldsK) (key:=bo) s_l12HoldsT_ok (enters Tryz.func178) Tryz.func178 fun hw=>by
 rw [s_l12Holds_ev]
 have hl:=wt_sl (hw ⟨sd (.sl 133),p⟩ (by simp))
 have e:=any_loop (L:=s_l12HoldsL0 ((gd p 0).rows.length+1) p q r s) (fun k => [gd p 0,gd q 0,gd r 0,gd r 1,gd s 0,.i 0,.i 0,.i (k:Int),gd r 0,gd r 1]) (gd p 0).rows.length (fun k=>holdS ((gd p 0).rows.getD k []) (gd q 0) r (gd s 0)) [.b true] 0 (fun k hk=>?_) ?_ (N:=(gd p 0).rows.length+1) (by omega)
 ·simp only [Int.natCast_zero] at e
  rw [e]
  unfold holds
  cases (List.range (gd p 0).rows.length).any (fun k=>holdS ((gd p 0).rows.getD k []) (gd q 0) r (gd s 0)) <;> rfl
 ·show s_l12HoldsL0 _ p q r s [_,_,_,_,_,_,_,.i (k:Int),_,_]=_
  rw [s_l12HoldsR0]
  simp only [int_i,c_lt hk,nd_ix hk,w64_succ hk hl,Int.toNat_natCast]
  rw [show s_RangeInF [gd r 0,gd r 1] [gd ((gd p 0).rows.getD k []) 1,gd ((gd p 0).rows.getD k []) 2]=s_RangeInF r [gd ((gd p 0).rows.getD k []) 1,gd ((gd p 0).rows.getD k []) 2] from rfl]
  unfold holdS
  cases (gd ((gd p 0).rows.getD k []) 0).int==(gd q 0).int <;> cases s_RangeInF r [gd ((gd p 0).rows.getD k []) 1,gd ((gd p 0).rows.getD k []) 2] <;> cases leI (gd s 0).int (gd ((gd p 0).rows.getD k []) 3).int <;> rfl
 ·show s_l12HoldsL0 _ p q r s [_,_,_,_,_,_,_,.i ((gd p 0).rows.length:Int),_,_]=_
  rw [s_l12HoldsR0]
  simp only [int_i,c_nlt]
abbrev i_txsOfT:FuncId→List T→Option (T × Bool):=find []
theorem i_txsOfT_ok:CallOk Tryz.prog i_txsOfT:=find_ok (fN)
abbrev i_txsOfK:List Nat:= [0,2,3,5,7,8,9,10]
noncomputable def i_txsOfL0 (N:Nat) (p:List D):List D→Out:=loopOf Tryz.prog i_txsOfT N i_txsOfK Tryz.f140 (.one (.c (.own (0,0) true 3))) [⟨sd (.sl 177),p⟩] 0
theorem i_txsOfR0 (N:Nat) (p:List D) (x0 x1 x2 x3 x4 x5:D):(i_txsOfL0 N p) [x0,x1,x2,x3,x4,x5] =
 bif ltI x5.int x4.int then nd (inRange x5.int x3.rows.length) (nd (lenOk (x2.rows ++ [[gd (x3.rows.getD x5.int.toNat []) 0]])&&true) (nx [x0,x1,.l (x2.rows ++ [[gd (x3.rows.getD x5.int.toNat []) 0]]),x3,x4,.i (w64 (x5.int+1))]))
 else ex 0 [x0,x1,x2,x3,x4,x5]:=by kernel_rfl
theorem i_txsOf_ev (N:Nat) (p:List D):evFn Tryz.prog i_txsOfT N i_txsOfK Tryz.f140 (.one (.c (.own (0,0) true 3))) [⟨sd (.sl 177),p⟩]=some (bo,
 (let o0:=iter (i_txsOfL0 N p) N [gd p 0,.l [],.l [],gd p 0,.i ((gd p 0).rows.length:Int),.i 0]
  nd o0.isSome (nd (o0.code==2) (some (1,[gd o0.pay 2]))))):=by kernel_rfl
def txsD (z:D):D:=.l (z.rows.map fun r => [gd r 0])
def i_txsOfE:Ent:=(140,e1 (sd (.sl 177)) fun p=>(⟨.one (.c (.own (0,0) true 3)),[txsD (gd p 0)]⟩,leI ((gd p 0).rows.length:Int) 1000000000))
theorem i_txsOf_ok:EntOk Tryz.prog i_txsOfE:=e1_ok fun p h=>evFn_sound (N:=(gd p 0).rows.length+1) (ks:=i_txsOfK) (key:=bo) i_txsOfT_ok (enters Tryz.func140) Tryz.func140 fun hw=>by
 rw [i_txsOf_ev]
 have h:leI ((gd p 0).rows.length:Int) 1000000000=true:=h
 simp only [leI,decide_eq_true_eq] at h
 have e:=run_loop (L:=i_txsOfL0 ((gd p 0).rows.length+1) p) (fun k => [gd p 0,.l [],.l (((gd p 0).rows.take k).map fun r => [gd r 0]),gd p 0,.i ((gd p 0).rows.length:Int),.i (k:Int)]) (gd p 0).rows.length 0 (fun k hk=>?_) ?_ (N:=(gd p 0).rows.length+1) (by omega)
 ·simp only [Int.natCast_zero,List.take_zero,List.map_nil,List.take_length] at e
  rw [e]
  rfl
 ·show i_txsOfL0 _ p [_,_,.l (((gd p 0).rows.take k).map fun r => [gd r 0]),_,_,.i (k:Int)]=_
  rw [i_txsOfR0]
  have ht:((gd p 0).rows.take (k+1)).map (fun r => [gd r 0])=((gd p 0).rows.take k).map (fun r => [gd r 0]) ++ [[gd ((gd p 0).rows.getD k []) 0]]:=by
   rw [List.take_succ_eq_append_getElem hk,List.map_append,List.getD_eq_getElem?_getD,List.getElem?_eq_getElem hk]
   rfl
  have hd:lenOk (((gd p 0).rows.take k).map (fun r => [gd r 0]) ++ [[gd ((gd p 0).rows.getD k []) 0]])=true:=lenOk_t (by simp; omega)
  simp only [int_i,rows_l,c_lt hk,nd_ix hk,w64_succ hk (show (gd p 0).rows.length≤9223372036854775807 from by omega),Int.toNat_natCast]
  rw [hd,ht]
  rfl
 ·show i_txsOfL0 _ p [_,_,_,_,.i ((gd p 0).rows.length:Int),.i ((gd p 0).rows.length:Int)]=_
  rw [i_txsOfR0]
  simp only [int_i,c_nlt]
abbrev i_heldsOk_1T:FuncId→List T→Option (T × Bool):=find [i_oneE,i_LocksHoldE]
theorem i_heldsOk_1T_ok:CallOk Tryz.prog i_heldsOk_1T:=find_ok (fC ⟨i_one_ok,fC ⟨i_LocksHold_ok,fN⟩⟩)
abbrev i_heldsOk_1K:List Nat:= [0,1,2,3,4]
theorem i_heldsOk_1_ev (N:Nat) (p q r:List D):evFn Tryz.prog i_heldsOk_1T N i_heldsOk_1K Tryz.f189 rb [⟨ag rIWrite,p⟩,⟨.one (.c (.cptr [si,.sl 82,.sl 82,.sl 131,.sl 133,.sl 177,.sl 3,.sl 3,si] 0)),q⟩,⟨.one (.c (.cptr [si,.sl 178] 0)),r⟩]=some (bo,
 ob (!(locksHold (gd ((gd q 0).rows.getD 0 []) 4) (gd ((gd r 0).rows.getD 0 []) 0) [(gd p 0),.i (w64 ((gd p 0).int+1))] (.i 2)))):=by kernel_rfl
def i_heldsOk_1F (p q r:List D):Bool:=
 !(locksHold (gd ((gd q 0).rows.getD 0 []) 4) (gd ((gd r 0).rows.getD 0 []) 0) [(gd p 0),.i (w64 ((gd p 0).int+1))] (.i 2))
def i_heldsOk_1E:Ent:=(189,e3 (ag rIWrite) (.one (.c (.cptr [si,.sl 82,.sl 82,.sl 131,.sl 133,.sl 177,.sl 3,.sl 3,si] 0))) (.one (.c (.cptr [si,.sl 178] 0))) fun p q r=>(⟨rb,[.b (i_heldsOk_1F p [gd q 0] [gd r 0])]⟩,true))
theorem i_heldsOk_1_ok:EntOk Tryz.prog i_heldsOk_1E:=e3_ok fun p q r h=>evFn_sound (N:=0) (ks:=i_heldsOk_1K) (key:=bo) i_heldsOk_1T_ok (enters Tryz.func189) Tryz.func189 fun hw=>by
 rw [i_heldsOk_1_ev]
 try simp only [cond_ob,cond_oi,cond_os]
 rfl
abbrev ixfHOT:FuncId→List T→Option (T × Bool):=find [i_heldsOk_1E]
theorem ixfHOT_ok:CallOk Tryz.prog ixfHOT:=find_ok (fC ⟨i_heldsOk_1_ok,fN⟩)
abbrev ixfHOK:List Nat:= [0,1,4,5,7,8,9,16]
noncomputable def ixfHOL0 (N:Nat) (p q:List D):List D→Out:=loopOf Tryz.prog ixfHOT N ixfHOK Tryz.f221 ri [⟨sd (.sl 178),p⟩,⟨.one (.c (.fn 189 [.cptr [si,.sl 82,.sl 82,.sl 131,.sl 133,.sl 177,.sl 3,.sl 3,si] 0,.cptr [si,.sl 178] 0])),q⟩] 0
theorem ixfHOR0 (N:Nat) (p q:List D) (x0 x1 x2 x3 x4:D):(ixfHOL0 N p q) [x0,x1,x2,x3,x4] =
 bif ltI x4.int x3.int then nd (inRange x4.int x0.rows.length) (bif i_heldsOk_1F (sub (x0.rows.getD x4.int.toNat []) 0 2) [gd (x1.rows.getD 0 []) 0] [gd (x1.rows.getD 0 []).tail 0] then some (1,[x4])
 else nx [x0,x1,x2,x3,.i (w64 (x4.int+1))])
 else ex 0 [x0,x1,x2,x3,x4]:=by kernel_rfl
theorem ixfHO_ev (N:Nat) (p q:List D):evFn Tryz.prog ixfHOT N ixfHOK Tryz.f221 ri [⟨sd (.sl 178),p⟩,⟨.one (.c (.fn 189 [.cptr [si,.sl 82,.sl 82,.sl 131,.sl 133,.sl 177,.sl 3,.sl 3,si] 0,.cptr [si,.sl 178] 0])),q⟩]=some (bo,
 (let o0:=iter (ixfHOL0 N p q) N [gd p 0,gd q 0,.i 0,.i ((gd p 0).rows.length:Int),.i 0]
  nd o0.isSome (bif o0.code==1 then some (1,o0.pay)
  else nd (o0.code==2) (oi (-1))))):=by kernel_rfl
def ixfHOC (c:D) (r:List D):Bool:=i_heldsOk_1F r [gd (c.rows.getD 0 []) 0] [gd (c.rows.getD 0 []).tail 0]
def ixfHOE:Ent:=(221,e2 (sd (.sl 178)) (.one (.c (.fn 189 [.cptr [si,.sl 82,.sl 82,.sl 131,.sl 133,.sl 177,.sl 3,.sl 3,si] 0,.cptr [si,.sl 178] 0]))) fun p q=>(⟨ri,[.i (ixF (fun k=>ixfHOC (gd q 0) (sub ((gd p 0).rows.getD k []) 0 2)) 0 (gd p 0).rows.length)]⟩,true))
theorem ixfHO_ok:EntOk Tryz.prog ixfHOE:=e2_ok fun p q h=>evFn_sound (N:=(gd p 0).rows.length+1) (ks:=ixfHOK) (key:=bo) ixfHOT_ok (enters Tryz.func221) Tryz.func221 fun hw=>by
 rw [ixfHO_ev]
 have hl:=wt_sl (hw ⟨sd (.sl 178),p⟩ (by simp))
 have e:=ix_loop (L:=ixfHOL0 ((gd p 0).rows.length+1) p q) (fun k => [gd p 0,gd q 0,.i 0,.i ((gd p 0).rows.length:Int),.i (k:Int)]) (gd p 0).rows.length (fun k=>ixfHOC (gd q 0) (sub ((gd p 0).rows.getD k []) 0 2)) [gd p 0,gd q 0,.i 0,.i ((gd p 0).rows.length:Int),.i ((gd p 0).rows.length:Int)] (fun k hk=>?_) ?_ (gd p 0).rows.length 0 ((gd p 0).rows.length+1) (by omega) (by omega)
 ·simp only [Int.natCast_zero] at e
  rw [e]
  have hno:=ixF_neg (fun k=>ixfHOC (gd q 0) (sub ((gd p 0).rows.getD k []) 0 2)) (gd p 0).rows.length 0
  cases hd:decide (ixF (fun k=>ixfHOC (gd q 0) (sub ((gd p 0).rows.getD k []) 0 2)) 0 (gd p 0).rows.length≥0)
  ·rw [hno hd]; rfl
  ·rfl
 ·show ixfHOL0 _ p q [_,_,_,_,.i (k:Int)]=_
  rw [ixfHOR0]
  simp only [int_i,c_lt hk,nd_ix hk,w64_succ hk hl,Int.toNat_natCast]
  unfold ixfHOC
  cases i_heldsOk_1F (sub ((gd p 0).rows.getD k []) 0 2) [gd ((gd q 0).rows.getD 0 []) 0] [gd ((gd q 0).rows.getD 0 []).tail 0] <;> rfl
 ·show ixfHOL0 _ p q [_,_,_,.i ((gd p 0).rows.length:Int),.i ((gd p 0).rows.length:Int)]=_
  rw [ixfHOR0]
  simp only [int_i,c_nlt]
abbrev cofHOT:FuncId→List T→Option (T × Bool):=find [ixfHOE,i_heldsOk_1E]
theorem cofHOT_ok:CallOk Tryz.prog cofHOT:=find_ok (fC ⟨ixfHO_ok,fC ⟨i_heldsOk_1_ok,fN⟩⟩)
abbrev cofHOK:List Nat:= [0,1,4]
theorem cofHO_ev (N:Nat) (p q:List D):evFn Tryz.prog cofHOT N cofHOK Tryz.f188 rb [⟨sd (.sl 178),p⟩,⟨.one (.c (.fn 189 [.cptr [si,.sl 82,.sl 82,.sl 131,.sl 133,.sl 177,.sl 3,.sl 3,si] 0,.cptr [si,.sl 178] 0])),q⟩]=some (bo,
 ob (leI 0 (ixF (fun k=>ixfHOC (.l [[gd ((gd q 0).rows.getD 0 []) 0,gd ((gd q 0).rows.getD 0 []).tail 0]]) (sub ((gd p 0).rows.getD k []) 0 2)) 0 (gd p 0).rows.length))):=by kernel_rfl
def cofHOE:Ent:=(188,e2 (sd (.sl 178)) (.one (.c (.fn 189 [.cptr [si,.sl 82,.sl 82,.sl 131,.sl 133,.sl 177,.sl 3,.sl 3,si] 0,.cptr [si,.sl 178] 0]))) fun p q=>(⟨rb,[.b (anyS (fun rr=>ixfHOC (gd q 0) (sub rr 0 2)) (gd p 0))]⟩,true))
theorem cofHO_ok:EntOk Tryz.prog cofHOE:=e2_ok fun p q h=>evFn_sound (N:=0) (ks:=cofHOK) (key:=bo) cofHOT_ok (enters Tryz.func188) Tryz.func188 fun hw=>by
 rw [cofHO_ev]
 refine congrArg (fun x=>some (bo,ob x)) ?_
 exact (ixF_any (fun k=>ixfHOC (gd q 0) (sub ((gd p 0).rows.getD k []) 0 2)) (gd p 0).rows.length 0).trans (by simp only [Nat.zero_add]; rfl)
abbrev i_heldsOkT:FuncId→List T→Option (T × Bool):=find [i_WritesOkE,cofHOE,i_txsOfE,i_ascendingE]
theorem i_heldsOkT_ok:CallOk Tryz.prog i_heldsOkT:=find_ok (fC ⟨i_WritesOk_ok,fC ⟨cofHO_ok,fC ⟨i_txsOf_ok,fC ⟨i_ascending_ok,fN⟩⟩⟩⟩)
abbrev i_heldsOkK:List Nat:= [0,1,2,4,6,7,8,9,21]
noncomputable def i_heldsOkL0 (N:Nat) (p:List D):List D→Out:=loopOf Tryz.prog i_heldsOkT N i_heldsOkK Tryz.f127 rb [⟨ag rIShard,p⟩] 0
theorem i_heldsOkR0 (N:Nat) (p:List D) (x0 x1 x2 x3 x4 x5 x6 x7 x8 x9 x10 x11 x12 x13 x14 x15 x16 x17 x18 x19 x20 x21 x22:D):(i_heldsOkL0 N p) [x0,x1,x2,x3,x4,x5,x6,x7,x8,x9,x10,x11,x12,x13,x14,x15,x16,x17,x18,x19,x20,x21,x22] =
 bif ltI x13.int x12.int then nd (inRange x13.int x11.rows.length) (bif !(writesOk (gd (x11.rows.getD x13.int.toNat []) 1)) then ob false
 else bif anyS (fun rr=>ixfHOC (.l [[.l [[x14,x15,x16,x17,x18,x19,x20,x21,x22]],.l [sub (x11.rows.getD x13.int.toNat []) 0 2]]]) (sub rr 0 2)) (gd (x11.rows.getD x13.int.toNat []) 1) then ob false
 else nx [x0,x1,x2,x3,x4,x5,x6,x7,x8,x9,x10,x11,x12,.i (w64 (x13.int+1)),x14,x15,x16,x17,x18,x19,x20,x21,x22])
 else ex 0 [x0,x1,x2,x3,x4,x5,x6,x7,x8,x9,x10,x11,x12,x13,x14,x15,x16,x17,x18,x19,x20,x21,x22]:=by kernel_rfl
theorem i_heldsOk_ev (N:Nat) (p:List D):evFn Tryz.prog i_heldsOkT N i_heldsOkK Tryz.f127 rb [⟨ag rIShard,p⟩]=some (bo,
 (let o0:=iter (i_heldsOkL0 N p) N [gd p 0,gd p 1,gd p 2,gd p 3,gd p 4,gd p 5,gd p 6,gd p 7,gd p 8,.i 0,.i 0,gd p 5,.i ((gd p 5).rows.length:Int),.i 0,gd p 0,gd p 1,gd p 2,gd p 3,gd p 4,gd p 5,gd p 6,gd p 7,gd p 8]
  nd o0.isSome (bif o0.code==1 then some (1,o0.pay)
  else nd (o0.code==2) (nd (leI ((gd o0.pay 19).rows.length:Int) 1000000000) (ob (ascOk (txsD (gd o0.pay 19)))))))):=by kernel_rfl
def oneAt (w:List D):List D:= [gd w 0,.i (w64 ((gd w 0).int+1))]
def heldAt (p:List D) (k:Nat):Bool:=writesOk (gd ((gd p 5).rows.getD k []) 1)&&(List.range (gd ((gd p 5).rows.getD k []) 1).rows.length).all fun j=>locksHold (gd p 4) (gd ((gd p 5).rows.getD k []) 0) (oneAt ((gd ((gd p 5).rows.getD k []) 1).rows.getD j [])) (.i 2)
def heldsOk (p:List D):Bool:=(List.range (gd p 5).rows.length).all (heldAt p)&&ascOk (txsD (gd p 5))
def i_heldsOkE:Ent:=(127,e1 (ag rIShard) fun p=>(⟨rb,[.b (heldsOk p)]⟩,leI ((gd p 5).rows.length:Int) 1000000000))
theorem i_heldsOk_ok:EntOk Tryz.prog i_heldsOkE:=e1_ok fun p h=>evFn_sound (N:=(gd p 5).rows.length+1) (ks:=i_heldsOkK) (key:=bo) i_heldsOkT_ok (enters Tryz.func127) Tryz.func127 fun hw=>by
 rw [i_heldsOk_ev]
 have h:leI ((gd p 5).rows.length:Int) 1000000000=true:=h
 have h':=h
 simp only [leI,decide_eq_true_eq] at h'
 have e:=for_loop (L:=i_heldsOkL0 ((gd p 5).rows.length+1) p) (fun k => [gd p 0,gd p 1,gd p 2,gd p 3,gd p 4,gd p 5,gd p 6,gd p 7,gd p 8,.i 0,.i 0,gd p 5,.i ((gd p 5).rows.length:Int),.i (k:Int),gd p 0,gd p 1,gd p 2,gd p 3,gd p 4,gd p 5,gd p 6,gd p 7,gd p 8]) (gd p 5).rows.length (heldAt p) [.b false] 0 (fun k hk=>?_) ?_ (N:=(gd p 5).rows.length+1) (by omega)
 ·simp only [Int.natCast_zero] at e
  rw [e]
  unfold heldsOk
  cases (List.range (gd p 5).rows.length).all (heldAt p)
  ·rfl
  ·simp only [nd,cond_true,cond_false,Option.isSome_some,Out.code,Out.pay,Option.getD_some,gd_cons_zero,gd_cons_succ,Nat.reduceBEq,Nat.reduceAdd,int_i,bool_b,str_s,rows_l,Bool.not_true,Bool.not_false,beq_self_eq_true,h]
   rfl
 ·show i_heldsOkL0 _ p [_,_,_,_,_,_,_,_,_,_,_,_,_,.i (k:Int),_,_,_,_,_,_,_,_,_]=_
  rw [i_heldsOkR0]
  simp only [int_i,c_lt hk,nd_ix hk,w64_succ hk (show (gd p 5).rows.length≤9223372036854775807 from by omega),Int.toNat_natCast]
  have ea:(!anyS (fun r=>ixfHOC (.l [[.l [[gd p 0,gd p 1,gd p 2,gd p 3,gd p 4,gd p 5,gd p 6,gd p 7,gd p 8]],.l [sub ((gd p 5).rows.getD k []) 0 2]]]) (sub r 0 2)) (gd ((gd p 5).rows.getD k []) 1))=(List.range (gd ((gd p 5).rows.getD k []) 1).rows.length).all fun j=>locksHold (gd p 4) (gd ((gd p 5).rows.getD k []) 0) (oneAt ((gd ((gd p 5).rows.getD k []) 1).rows.getD j [])) (.i 2):=by
   unfold anyS
   rw [← not_any]
   refine all_congr fun j _=>?_
   show (!(!locksHold (gd p 4) (gd ((gd p 5).rows.getD k []) 0) (oneAt ((gd ((gd p 5).rows.getD k []) 1).rows.getD j [])) (.i 2)))=_
   rw [Bool.not_not]
  unfold heldAt
  rw [← ea]
  cases writesOk (gd ((gd p 5).rows.getD k []) 1) <;> cases anyS (fun r=>ixfHOC (.l [[.l [[gd p 0,gd p 1,gd p 2,gd p 3,gd p 4,gd p 5,gd p 6,gd p 7,gd p 8]],.l [sub ((gd p 5).rows.getD k []) 0 2]]]) (sub r 0 2)) (gd ((gd p 5).rows.getD k []) 1) <;> rfl
 ·show i_heldsOkL0 _ p [_,_,_,_,_,_,_,_,_,_,_,_,.i ((gd p 5).rows.length:Int),.i ((gd p 5).rows.length:Int),_,_,_,_,_,_,_,_,_]=_
  rw [i_heldsOkR0]
  simp only [int_i,c_nlt]
abbrev s_l13HeldsOkT:FuncId→List T→Option (T × Bool):=find [s_l12TxE,s_WritesOkE,s_l10OneE,s_l12HoldsE,s_l12HasE]
theorem s_l13HeldsOkT_ok:CallOk Tryz.prog s_l13HeldsOkT:=find_ok (fC ⟨s_l12Tx_ok,fC ⟨s_WritesOk_ok,fC ⟨s_l10One_ok,fC ⟨s_l12Holds_ok,fC ⟨s_l12Has_ok,fN⟩⟩⟩⟩⟩)
abbrev s_l13HeldsOkK:List Nat:= [0,1,2,3,4,5,10,43,48,63,75]
noncomputable def s_l13HeldsOkL0 (N:Nat) (p:List D):List D→Out:=loopOf Tryz.prog s_l13HeldsOkT N s_l13HeldsOkK Tryz.f110 rb [⟨ag rIShard,p⟩] 0
noncomputable def s_l13HeldsOkL2 (N:Nat) (p:List D):List D→Out:=loopOf Tryz.prog s_l13HeldsOkT N s_l13HeldsOkK Tryz.f110 rb [⟨ag rIShard,p⟩] 2
theorem s_l13HeldsOkR0 (N:Nat) (p:List D) (x0 x1 x2 x3 x4 x5 x6 x7 x8 x9 x10 x11 x12 x13 x14 x15 x16 x17 x18 x19 x20:D):(s_l13HeldsOkL0 N p) [x0,x1,x2,x3,x4,x5,x6,x7,x8,x9,x10,x11,x12,x13,x14,x15,x16,x17,x18,x19,x20] =
 bif ltI x11.int (x17.rows.length:Int) then nd (inRange x11.int x17.rows.length) (bif !(inB (gd (x17.rows.getD x11.int.toNat []) 0).int 1 60) then ob false
 else bif ltI 0 x11.int then nd (inRange (w64 (x11.int - 1)) x17.rows.length) (bif leI (gd (x17.rows.getD x11.int.toNat []) 0).int (gd (x17.rows.getD (w64 (x11.int - 1)).toNat []) 0).int then ob false
 else bif !(writesOk (gd (x17.rows.getD x11.int.toNat []) 1)) then ob false
 else (let o2:=iter (s_l13HeldsOkL2 N p) N [x0,x1,x2,x3,x4,x5,x6,x7,x8,x9,x10,x11,.b (ltI x11.int (x17.rows.length:Int)),.i 0,.b (!(writesOk (gd (x17.rows.getD x11.int.toNat []) 1))),.i 0,x12,x13,x14,x15,x16,x17,x18,x19,x20,gd (x17.rows.getD x11.int.toNat []) 0,gd (x17.rows.getD x11.int.toNat []) 1]
  nd o2.isSome (bif o2.code==1 then some (1,o2.pay)
  else nd (o2.code==4) (bif hasInt (gd o2.pay 22) (gd o2.pay 25).int then ob false
  else bif hasInt (gd o2.pay 23) (gd o2.pay 25).int then ob false
  else nx [gd o2.pay 0,gd o2.pay 1,gd o2.pay 2,gd o2.pay 3,gd o2.pay 4,gd o2.pay 5,gd o2.pay 6,gd o2.pay 7,gd o2.pay 8,gd o2.pay 9,gd o2.pay 10,.i (w64 ((gd o2.pay 11).int+1)),gd o2.pay 16,gd o2.pay 17,gd o2.pay 18,gd o2.pay 19,gd o2.pay 20,gd o2.pay 21,gd o2.pay 22,gd o2.pay 23,gd o2.pay 24]))))
 else bif !(writesOk (gd (x17.rows.getD x11.int.toNat []) 1)) then ob false
 else (let o2:=iter (s_l13HeldsOkL2 N p) N [x0,x1,x2,x3,x4,x5,x6,x7,x8,x9,x10,x11,.b (ltI x11.int (x17.rows.length:Int)),.i 0,.b (!(writesOk (gd (x17.rows.getD x11.int.toNat []) 1))),.i 0,x12,x13,x14,x15,x16,x17,x18,x19,x20,gd (x17.rows.getD x11.int.toNat []) 0,gd (x17.rows.getD x11.int.toNat []) 1]
  nd o2.isSome (bif o2.code==1 then some (1,o2.pay)
  else nd (o2.code==4) (bif hasInt (gd o2.pay 22) (gd o2.pay 25).int then ob false
  else bif hasInt (gd o2.pay 23) (gd o2.pay 25).int then ob false
  else nx [gd o2.pay 0,gd o2.pay 1,gd o2.pay 2,gd o2.pay 3,gd o2.pay 4,gd o2.pay 5,gd o2.pay 6,gd o2.pay 7,gd o2.pay 8,gd o2.pay 9,gd o2.pay 10,.i (w64 ((gd o2.pay 11).int+1)),gd o2.pay 16,gd o2.pay 17,gd o2.pay 18,gd o2.pay 19,gd o2.pay 20,gd o2.pay 21,gd o2.pay 22,gd o2.pay 23,gd o2.pay 24]))))
 else ex 0 [x0,x1,x2,x3,x4,x5,x6,x7,x8,x9,x10,x11,x12,x13,x14,x15,x16,x17,x18,x19,x20]:=by kernel_rfl
theorem s_l13HeldsOkR2 (N:Nat) (p:List D) (x0 x1 x2 x3 x4 x5 x6 x7 x8 x9 x10 x11 x12 x13 x14 x15 x16 x17 x18 x19 x20 x21 x22 x23 x24 x25 x26:D):(s_l13HeldsOkL2 N p) [x0,x1,x2,x3,x4,x5,x6,x7,x8,x9,x10,x11,x12,x13,x14,x15,x16,x17,x18,x19,x20,x21,x22,x23,x24,x25,x26] =
 bif ltI x15.int (x26.rows.length:Int) then nd (inRange x15.int x26.rows.length) (bif !(holds x20 x25 [(gd (x26.rows.getD x15.int.toNat []) 0),.i (w64 ((gd (x26.rows.getD x15.int.toNat []) 0).int+1))] (.i 2)) then ob false
 else nx [x0,x1,x2,x3,x4,x5,x6,x7,x8,x9,x10,x11,x12,x13,x14,.i (w64 (x15.int+1)),x16,x17,x18,x19,x20,x21,x22,x23,x24,x25,x26])
 else ex 2 [x0,x1,x2,x3,x4,x5,x6,x7,x8,x9,x10,x11,x12,x13,x14,x15,x16,x17,x18,x19,x20,x21,x22,x23,x24,x25,x26]:=by kernel_rfl
theorem s_l13HeldsOk_ev (N:Nat) (p:List D):evFn Tryz.prog s_l13HeldsOkT N s_l13HeldsOkK Tryz.f110 rb [⟨ag rIShard,p⟩]=some (bo,
 (let o0:=iter (s_l13HeldsOkL0 N p) N [gd p 0,gd p 1,gd p 2,gd p 3,gd p 4,gd p 5,gd p 6,gd p 7,gd p 8,.i 0,.i 0,.i 0,gd p 0,gd p 1,gd p 2,gd p 3,gd p 4,gd p 5,gd p 6,gd p 7,gd p 8]
  nd o0.isSome (bif o0.code==1 then some (1,o0.pay)
  else nd (o0.code==2) (ob true)))):=by kernel_rfl
def heldRest (p:List D) (k:Nat):Bool:=writesOk (gd ((gd p 5).rows.getD k []) 1)&&((List.range (gd ((gd p 5).rows.getD k []) 1).rows.length).all (fun j=>holds (gd p 4) (gd ((gd p 5).rows.getD k []) 0) (oneAt ((gd ((gd p 5).rows.getD k []) 1).rows.getD j [])) (.i 2))&&(!hasInt (gd p 6) (gd ((gd p 5).rows.getD k []) 0).int && !hasInt (gd p 7) (gd ((gd p 5).rows.getD k []) 0).int))
def heldAtS (p:List D):Nat→Bool
 | 0=>inB (gd ((gd p 5).rows.getD 0 []) 0).int 1 60&&heldRest p 0
 | k+1=>inB (gd ((gd p 5).rows.getD (k+1) []) 0).int 1 60&&(!leI (gd ((gd p 5).rows.getD (k+1) []) 0).int (gd ((gd p 5).rows.getD k []) 0).int&&heldRest p (k+1))
def heldsOkS (p:List D):Bool:=(List.range (gd p 5).rows.length).all (heldAtS p)
theorem writes_len {z:D} (h:writesOk z=true):z.rows.length≤60:=by
 simp only [writesOk,Bool.and_eq_true,decide_eq_true_eq] at h
 omega
theorem heldsU (p:List D) (N:Nat) (hN:61≤N) (x12 x14:D) (k:Nat) (hwo:writesOk (gd ((gd p 5).rows.getD k []) 1)=true) :
  iter (s_l13HeldsOkL2 N p) N [gd p 0,gd p 1,gd p 2,gd p 3,gd p 4,gd p 5,gd p 6,gd p 7,gd p 8,.i 0,.i 0,.i (k:Int),x12,.i 0,x14,.i 0,gd p 0,gd p 1,gd p 2,gd p 3,gd p 4,gd p 5,gd p 6,gd p 7,gd p 8,gd ((gd p 5).rows.getD k []) 0,gd ((gd p 5).rows.getD k []) 1] =
  some (bif (List.range (gd ((gd p 5).rows.getD k []) 1).rows.length).all (fun j=>holds (gd p 4) (gd ((gd p 5).rows.getD k []) 0) (oneAt ((gd ((gd p 5).rows.getD k []) 1).rows.getD j [])) (.i 2)) then (4,[gd p 0,gd p 1,gd p 2,gd p 3,gd p 4,gd p 5,gd p 6,gd p 7,gd p 8,.i 0,.i 0,.i (k:Int),x12,.i 0,x14,.i ((gd ((gd p 5).rows.getD k []) 1).rows.length:Int),gd p 0,gd p 1,gd p 2,gd p 3,gd p 4,gd p 5,gd p 6,gd p 7,gd p 8,gd ((gd p 5).rows.getD k []) 0,gd ((gd p 5).rows.getD k []) 1]) else (1,[.b false])):=by
 have hlw:=writes_len hwo
 have e:=for_loop (L:=s_l13HeldsOkL2 N p) (fun j => [gd p 0,gd p 1,gd p 2,gd p 3,gd p 4,gd p 5,gd p 6,gd p 7,gd p 8,.i 0,.i 0,.i (k:Int),x12,.i 0,x14,.i (j:Int),gd p 0,gd p 1,gd p 2,gd p 3,gd p 4,gd p 5,gd p 6,gd p 7,gd p 8,gd ((gd p 5).rows.getD k []) 0,gd ((gd p 5).rows.getD k []) 1]) (gd ((gd p 5).rows.getD k []) 1).rows.length (fun j=>holds (gd p 4) (gd ((gd p 5).rows.getD k []) 0) (oneAt ((gd ((gd p 5).rows.getD k []) 1).rows.getD j [])) (.i 2)) [.b false] 2 (fun j hj=>?_) ?_ (N:=N) (by omega)
 ·simp only [Int.natCast_zero] at e
  exact e
 ·show s_l13HeldsOkL2 N p [_,_,_,_,_,_,_,_,_,_,_,_,_,_,_,.i (j:Int),_,_,_,_,_,_,_,_,_,_,_]=_
  rw [s_l13HeldsOkR2]
  simp only [int_i,c_lt hj,nd_ix hj,w64_succ hj (show (gd ((gd p 5).rows.getD k []) 1).rows.length≤9223372036854775807 from by omega),Int.toNat_natCast]
  rw [show holds (gd p 4) (gd ((gd p 5).rows.getD k []) 0) [gd ((gd ((gd p 5).rows.getD k []) 1).rows.getD j []) 0,.i (w64 ((gd ((gd ((gd p 5).rows.getD k []) 1).rows.getD j []) 0).int+1))] (.i 2)=holds (gd p 4) (gd ((gd p 5).rows.getD k []) 0) (oneAt ((gd ((gd p 5).rows.getD k []) 1).rows.getD j [])) (.i 2) from rfl]
  cases holds (gd p 4) (gd ((gd p 5).rows.getD k []) 0) (oneAt ((gd ((gd p 5).rows.getD k []) 1).rows.getD j [])) (.i 2) <;> rfl
 ·show s_l13HeldsOkL2 N p [_,_,_,_,_,_,_,_,_,_,_,_,_,_,_,.i ((gd ((gd p 5).rows.getD k []) 1).rows.length:Int),_,_,_,_,_,_,_,_,_,_,_]=_
  rw [s_l13HeldsOkR2]
  simp only [int_i,c_nlt]
def s_l13HeldsOkE:Ent:=(110,e1 (ag rIShard) fun p=>(⟨rb,[.b (heldsOkS p)]⟩,true))
theorem s_l13HeldsOk_ok:EntOk Tryz.prog s_l13HeldsOkE:=e1_ok fun p h=>evFn_sound (N:=(gd p 5).rows.length+61) (ks:=s_l13HeldsOkK) (key:=bo) s_l13HeldsOkT_ok (enters Tryz.func110) Tryz.func110 fun hw=>by
 rw [s_l13HeldsOk_ev]
 have hl:=wt_at (hw ⟨ag rIShard,p⟩ (by simp)) (j:=5) rfl
 have e:=for_loop (L:=s_l13HeldsOkL0 ((gd p 5).rows.length+61) p) (fun k => [gd p 0,gd p 1,gd p 2,gd p 3,gd p 4,gd p 5,gd p 6,gd p 7,gd p 8,.i 0,.i 0,.i (k:Int),gd p 0,gd p 1,gd p 2,gd p 3,gd p 4,gd p 5,gd p 6,gd p 7,gd p 8]) (gd p 5).rows.length (heldAtS p) [.b false] 0 (fun k hk=>?_) ?_ (N:=(gd p 5).rows.length+61) (by omega)
 ·simp only [Int.natCast_zero] at e
  rw [e]
  unfold heldsOkS
  cases (List.range (gd p 5).rows.length).all (heldAtS p) <;> rfl
 ·cases k with
  | zero =>
   show s_l13HeldsOkL0 _ p [_,_,_,_,_,_,_,_,_,_,_,.i ((0:Nat):Int),_,_,_,_,_,_,_,_,_]=_
   rw [s_l13HeldsOkR0]
   simp only [int_i,ltI_nat hk,cond_true,nd_ix hk,Int.toNat_natCast,ltI_00,cond_false,heldAtS,heldRest]
   cases inB (gd ((gd p 5).rows.getD 0 []) 0).int 1 60 <;> try rfl
   cases hwo:writesOk (gd ((gd p 5).rows.getD 0 []) 1) <;> try rfl
   simp only [Bool.not_true,cond_false,heldsU p _ (show 61≤(gd p 5).rows.length+61 from by omega) _ _ 0 hwo]
   cases (List.range (gd ((gd p 5).rows.getD 0 []) 1).rows.length).all (fun j=>holds (gd p 4) (gd ((gd p 5).rows.getD 0 []) 0) (oneAt ((gd ((gd p 5).rows.getD 0 []) 1).rows.getD j [])) (.i 2)) <;> try rfl
   simp only [nd,cond_true,cond_false,Option.isSome_some,Out.code,Out.pay,Option.getD_some,gd_cons_zero,gd_cons_succ,Nat.reduceBEq,Nat.reduceAdd,int_i,bool_b,str_s,rows_l,Bool.not_true,Bool.not_false,beq_self_eq_true,w64_succ hk hl]
   cases hasInt (gd p 6) (gd ((gd p 5).rows.getD 0 []) 0).int <;> cases hasInt (gd p 7) (gd ((gd p 5).rows.getD 0 []) 0).int <;> rfl
  | succ k =>
   show s_l13HeldsOkL0 _ p [_,_,_,_,_,_,_,_,_,_,_,.i ((k+1:Nat):Int),_,_,_,_,_,_,_,_,_]=_
   rw [s_l13HeldsOkR0]
   simp only [int_i,ltI_nat hk,cond_true,nd_ix hk,Int.toNat_natCast,ltI_0s,w64_pred (show k+1≤9223372036854775807 from by omega),nd_ix (Nat.lt_of_succ_lt hk),heldAtS,heldRest]
   cases inB (gd ((gd p 5).rows.getD (k+1) []) 0).int 1 60 <;> try rfl
   cases leI (gd ((gd p 5).rows.getD (k+1) []) 0).int (gd ((gd p 5).rows.getD k []) 0).int <;> try rfl
   cases hwo:writesOk (gd ((gd p 5).rows.getD (k+1) []) 1) <;> try rfl
   simp only [Bool.not_true,cond_false,heldsU p _ (show 61≤(gd p 5).rows.length+61 from by omega) _ _ (k+1) hwo]
   cases (List.range (gd ((gd p 5).rows.getD (k+1) []) 1).rows.length).all (fun j=>holds (gd p 4) (gd ((gd p 5).rows.getD (k+1) []) 0) (oneAt ((gd ((gd p 5).rows.getD (k+1) []) 1).rows.getD j [])) (.i 2)) <;> try rfl
   simp only [nd,cond_true,cond_false,Option.isSome_some,Out.code,Out.pay,Option.getD_some,gd_cons_zero,gd_cons_succ,Nat.reduceBEq,Nat.reduceAdd,int_i,bool_b,str_s,rows_l,Bool.not_true,Bool.not_false,beq_self_eq_true,w64_succ hk hl]
   cases hasInt (gd p 6) (gd ((gd p 5).rows.getD (k+1) []) 0).int <;> cases hasInt (gd p 7) (gd ((gd p 5).rows.getD (k+1) []) 0).int <;> rfl
 ·show s_l13HeldsOkL0 _ p [_,_,_,_,_,_,_,_,_,_,_,.i ((gd p 5).rows.length:Int),_,_,_,_,_,_,_,_,_]=_
  rw [s_l13HeldsOkR0]
  simp only [int_i,c_nlt]
end Go.Proofs.YtecefnhhlaolmaaGreat
namespace Go.Proofs.YtecefnhhlaolmaaGreat
set_option maxRecDepth 4096
set_option maxHeartbeats 1000000
abbrev i_LetterOkT:FuncId→List T→Option (T × Bool):=find [i_letterHasE,i_numRightE,i_hasE,i_RangeOkE,i_readsOkE,i_WritesOkE,i_StoreOkE,i_SharesOkE,i_votesE]
theorem i_LetterOkT_ok:CallOk Tryz.prog i_LetterOkT:=find_ok (fC ⟨i_letterHas_ok,fC ⟨i_numRight_ok,fC ⟨i_has_ok,fC ⟨i_RangeOk_ok,fC ⟨i_readsOk_ok,fC ⟨i_WritesOk_ok,fC ⟨i_StoreOk_ok,fC ⟨i_SharesOk_ok,fC ⟨i_votes_ok,fN⟩⟩⟩⟩⟩⟩⟩⟩⟩)
abbrev i_LetterOkK:List Nat:= [0,1,2,3,50,85]
noncomputable def i_LetterOks0 (N:Nat) (p:List D):Out:=bif ((gd p 13).rows.length:Int)==0 then bif !(votesAny (gd p 13) 1) then ob (!(votesAny (gd p 13) 2)) else ob false else ob false
noncomputable def i_LetterOks1 (N:Nat) (p:List D):Out:=bif hasB (i_letterHasF [(gd p 0)]) 83 then bif !(votesAny (gd p 13) 1) then ob (!(votesAny (gd p 13) 2)) else ob false else (i_LetterOks0 N p)
noncomputable def i_LetterOks2 (N:Nat) (p:List D):Out:=bif sharesOk (gd p 13) then nd (leI ((i_letterHasF [(gd p 0)]).length:Int) 100) (i_LetterOks1 N p) else ob false
noncomputable def i_LetterOks3 (N:Nat) (p:List D):Out:=bif hasB (i_letterHasF [(gd p 0)]) 108 then (i_LetterOks2 N p) else bif ((gd p 12).rows.length:Int)==0 then (i_LetterOks2 N p) else ob false
noncomputable def i_LetterOks4 (N:Nat) (p:List D):Out:=bif storeOk (gd p 12) then nd (leI ((i_letterHasF [(gd p 0)]).length:Int) 100) (i_LetterOks3 N p) else ob false
noncomputable def i_LetterOks5 (N:Nat) (p:List D):Out:=bif hasB (i_letterHasF [(gd p 0)]) 87 then (i_LetterOks4 N p) else bif ((gd p 11).rows.length:Int)==0 then (i_LetterOks4 N p) else ob false
noncomputable def i_LetterOks6 (N:Nat) (p:List D):Out:=bif writesOk (gd p 11) then nd (leI ((i_letterHasF [(gd p 0)]).length:Int) 100) (i_LetterOks5 N p) else ob false
noncomputable def i_LetterOks7 (N:Nat) (p:List D):Out:=bif hasB (i_letterHasF [(gd p 0)]) 101 then (i_LetterOks6 N p) else bif ((gd p 10).rows.length:Int)==0 then (i_LetterOks6 N p) else ob false
noncomputable def i_LetterOks8 (N:Nat) (p:List D):Out:=bif readsOk (gd p 10) then nd (leI ((i_letterHasF [(gd p 0)]).length:Int) 100) (i_LetterOks7 N p) else ob false
noncomputable def i_LetterOks9 (N:Nat) (p:List D):Out:=bif !(hasB (i_letterHasF [(gd p 0)]) 89) then bif (gd p 9).bool then ob false else (i_LetterOks8 N p) else (i_LetterOks8 N p)
noncomputable def i_LetterOks10 (N:Nat) (p:List D):Out:=bif (gd p 6).int != 0 then ob false else nd (leI ((i_letterHasF [(gd p 0)]).length:Int) 100) (i_LetterOks9 N p)
noncomputable def i_LetterOks11 (N:Nat) (p:List D):Out:=bif !(hasB (i_letterHasF [(gd p 0)]) 107) then bif (gd p 5).int != 0 then ob false else (i_LetterOks10 N p) else nd (leI ((i_letterHasF [(gd p 0)]).length:Int) 100) (i_LetterOks9 N p)
noncomputable def i_LetterOks12 (N:Nat) (p:List D):Out:=bif !(rangeOk (sub p 5 2)) then ob false else nd (leI ((i_letterHasF [(gd p 0)]).length:Int) 100) (i_LetterOks11 N p)
noncomputable def i_LetterOks13 (N:Nat) (p:List D):Out:=bif hasB (i_letterHasF [(gd p 0)]) 107 then (i_LetterOks12 N p) else nd (leI ((i_letterHasF [(gd p 0)]).length:Int) 100) (i_LetterOks11 N p)
noncomputable def i_LetterOks14 (N:Nat) (p:List D):Out:=bif !(numOk (hasB (i_letterHasF [(gd p 0)]) 99) (gd p 8).int 0 7) then ob false else nd (leI ((i_letterHasF [(gd p 0)]).length:Int) 100) (i_LetterOks13 N p)
noncomputable def i_LetterOks15 (N:Nat) (p:List D):Out:=bif !(numOk (hasB (i_letterHasF [(gd p 0)]) 78) (gd p 7).int 1 1000000) then ob false else nd (leI ((i_letterHasF [(gd p 0)]).length:Int) 100) (i_LetterOks14 N p)
noncomputable def i_LetterOks16 (N:Nat) (p:List D):Out:=bif !(numOk (hasB (i_letterHasF [(gd p 0)]) 84) (gd p 4).int 1 60) then ob false else nd (leI ((i_letterHasF [(gd p 0)]).length:Int) 100) (i_LetterOks15 N p)
noncomputable def i_LetterOks17 (N:Nat) (p:List D):Out:=bif !(numOk (hasB (i_letterHasF [(gd p 0)]) 82) (gd p 3).int 1 1000000000) then ob false else nd (leI ((i_letterHasF [(gd p 0)]).length:Int) 100) (i_LetterOks16 N p)
noncomputable def i_LetterOks18 (N:Nat) (p:List D):Out:=bif !(numOk (hasB (i_letterHasF [(gd p 0)]) 67) (gd p 2).int 0 5) then ob false else nd (leI ((i_letterHasF [(gd p 0)]).length:Int) 100) (i_LetterOks17 N p)
noncomputable def i_LetterOks19 (N:Nat) (p:List D):Out:=bif !(numOk (hasB (i_letterHasF [(gd p 0)]) 71) (gd p 1).int 0 3) then ob false else nd (leI ((i_letterHasF [(gd p 0)]).length:Int) 100) (i_LetterOks18 N p)
noncomputable def i_LetterOks20 (N:Nat) (p:List D):Out:=bif (i_letterHasF [(gd p 0)]) == [] then ob false else nd (leI ((i_letterHasF [(gd p 0)]).length:Int) 100) (i_LetterOks19 N p)
theorem i_LetterOk_ev (N:Nat) (p:List D):evFn Tryz.prog i_LetterOkT N i_LetterOkK Tryz.f67 rb [⟨ag rILetter,p⟩]=some (bo,(i_LetterOks20 N p)):=by kernel_rfl
def formI (k:Int):List UInt8:=i_letterHasF [.i k]
theorem letters_same (k:Int):((lettersS k).str == [])=(formI k == [])∧hasB (lettersS k).str 103=hasB (formI k) 71∧hasB (lettersS k).str 99=hasB (formI k) 67∧hasB (lettersS k).str 113=hasB (formI k) 82∧hasB (lettersS k).str 116=hasB (formI k) 84∧hasB (lettersS k).str 110=hasB (formI k) 78∧hasB (lettersS k).str 107=hasB (formI k) 99∧hasB (lettersS k).str 121=hasB (formI k) 89∧hasB (lettersS k).str 114=hasB (formI k) 107∧hasB (lettersS k).str 82=hasB (formI k) 101∧hasB (lettersS k).str 87=hasB (formI k) 87∧hasB (lettersS k).str 67=hasB (formI k) 108∧hasB (lettersS k).str 83=hasB (formI k) 83:=by
 by_cases h:1≤k∧k≤17
 ·have h17:k=1∨k=2∨k=3∨k=4∨k=5∨k=6∨k=7∨k=8∨k=9∨k=10∨k=11∨k=12∨k=13∨k=14∨k=15∨k=16∨k=17:=by omega
  rcases h17 with rfl | rfl | rfl | rfl | rfl | rfl | rfl | rfl | rfl | rfl | rfl | rfl | rfl | rfl | rfl | rfl | rfl <;> decide +kernel
 ·have h1:lettersS k=.s []:=by
   unfold lettersS
   rw [show inB k 1 17=false from by
    simp only [inB,Bool.and_eq_false_iff,decide_eq_false_iff_not]; omega]
   rfl
  have h2:formI k = []:=by
   have hn:∀ j:Int,1≤j→j≤17→(k==j)=false:=fun j a b=>beq_eq_false_iff_ne.2 (by omega)
   show i_letterHasF [.i k] = []
   unfold i_letterHasF
   simp only [gd_cons_zero,int_i,hn 1 (by omega) (by omega),hn 2 (by omega) (by omega),hn 3 (by omega) (by omega),hn 4 (by omega) (by omega),hn 5 (by omega) (by omega),hn 6 (by omega) (by omega),hn 7 (by omega) (by omega),hn 8 (by omega) (by omega),hn 9 (by omega) (by omega),hn 10 (by omega) (by omega),hn 11 (by omega) (by omega),hn 12 (by omega) (by omega),hn 13 (by omega) (by omega),hn 14 (by omega) (by omega),hn 15 (by omega) (by omega),hn 16 (by omega) (by omega),hn 17 (by omega) (by omega),cond_false]
  rw [h1,h2]
  exact ⟨rfl,rfl,rfl,rfl,rfl,rfl,rfl,rfl,rfl,rfl,rfl,rfl,rfl⟩
theorem form_len (k:Int):leI ((formI k).length:Int) 100=true:=by
 by_cases h:1≤k∧k≤17
 ·have h17:k=1∨k=2∨k=3∨k=4∨k=5∨k=6∨k=7∨k=8∨k=9∨k=10∨k=11∨k=12∨k=13∨k=14∨k=15∨k=16∨k=17:=by omega
  rcases h17 with rfl | rfl | rfl | rfl | rfl | rfl | rfl | rfl | rfl | rfl | rfl | rfl | rfl | rfl | rfl | rfl | rfl <;> rfl
 ·have h2:(formI k == [])=true:=by
   rw [← (letters_same k).1]
   unfold lettersS
   rw [show inB k 1 17=false from by
    simp only [inB,Bool.and_eq_false_iff,decide_eq_false_iff_not]; omega]
   rfl
  rw [eq_of_beq h2]; rfl
theorem letters_len (k:Int):leI ((lettersS k).str.length:Int) 100=true:=by
 by_cases h:1≤k∧k≤17
 ·have h17:k=1∨k=2∨k=3∨k=4∨k=5∨k=6∨k=7∨k=8∨k=9∨k=10∨k=11∨k=12∨k=13∨k=14∨k=15∨k=16∨k=17:=by omega
  rcases h17 with rfl | rfl | rfl | rfl | rfl | rfl | rfl | rfl | rfl | rfl | rfl | rfl | rfl | rfl | rfl | rfl | rfl <;> rfl
 ·unfold lettersS
  rw [show inB k 1 17=false from by
   simp only [inB,Bool.and_eq_false_iff,decide_eq_false_iff_not]; omega]
  rfl
def letterF (p:List D) (f:List UInt8):Bool:= !(f == [])&&(numOk (hasB f 71) (gd p 1).int 0 3&&(numOk (hasB f 67) (gd p 2).int 0 5&&(numOk (hasB f 82) (gd p 3).int 1 1000000000&&(numOk (hasB f 84) (gd p 4).int 1 60&&(numOk (hasB f 78) (gd p 7).int 1 1000000&&(numOk (hasB f 99) (gd p 8).int 0 7&&((bif hasB f 107 then rangeOk [gd p 5,gd p 6] else ((gd p 5).int==0)&&((gd p 6).int==0))&&((hasB f 89 || !(gd p 9).bool)&&(readsOk (gd p 10)&&((hasB f 101||(((gd p 10).rows.length:Int)==0))&&(writesOk (gd p 11)&&((hasB f 87||(((gd p 11).rows.length:Int)==0))&&(storeOk (gd p 12)&&((hasB f 108||(((gd p 12).rows.length:Int)==0))&&(sharesOk (gd p 13)&&((hasB f 83||(((gd p 13).rows.length:Int)==0))&&((!votesAny (gd p 13) 1 && !votesAny (gd p 13) 2))))))))))))))))))
def letterOk (p:List D):Bool:=letterF p (formI (gd p 0).int)
def i_LetterOkg0 (p:List D):Bool:=(((gd p 13).rows.length:Int)==0)&&(!votesAny (gd p 13) 1 && !votesAny (gd p 13) 2)
theorem i_LetterOkx0 (p:List D):i_LetterOks0 0 p=ob (i_LetterOkg0 p):=by
 unfold i_LetterOks0 i_LetterOkg0
 try simp only [show i_letterHasF [gd p 0]=formI (gd p 0).int from rfl,form_len (gd p 0).int,nd_true,bne_not,show rangeOk (sub p 5 2)=rangeOk [gd p 5,gd p 6] from rfl]
 generalize (((gd p 13).rows.length:Int)==0)=b0
 generalize votesAny (gd p 13) 1=b1
 generalize votesAny (gd p 13) 2=b2
 cases b0 <;> cases b1 <;> cases b2 <;> rfl
def i_LetterOkg1 (p:List D):Bool:=(hasB (formI (gd p 0).int) 83||(((gd p 13).rows.length:Int)==0))&&(!votesAny (gd p 13) 1 && !votesAny (gd p 13) 2)
theorem i_LetterOkx1 (p:List D):i_LetterOks1 0 p=ob (i_LetterOkg1 p):=by
 unfold i_LetterOks1 i_LetterOkg1
 rw [i_LetterOkx0]
 unfold i_LetterOkg0
 try simp only [show i_letterHasF [gd p 0]=formI (gd p 0).int from rfl,form_len (gd p 0).int,nd_true,bne_not,show rangeOk (sub p 5 2)=rangeOk [gd p 5,gd p 6] from rfl]
 generalize hasB (formI (gd p 0).int) 83=b0
 generalize (((gd p 13).rows.length:Int)==0)=b1
 generalize votesAny (gd p 13) 1=b2
 generalize votesAny (gd p 13) 2=b3
 cases b0 <;> cases b1 <;> cases b2 <;> cases b3 <;> rfl
def i_LetterOkg2 (p:List D):Bool:=sharesOk (gd p 13)&&i_LetterOkg1 p
theorem i_LetterOkx2 (p:List D):i_LetterOks2 0 p=ob (i_LetterOkg2 p):=by
 unfold i_LetterOks2 i_LetterOkg2
 try rw [i_LetterOkx1 p]
 generalize i_LetterOkg1 p=y
 try simp only [show i_letterHasF [gd p 0]=formI (gd p 0).int from rfl,form_len (gd p 0).int,nd_true,bne_not,show rangeOk (sub p 5 2)=rangeOk [gd p 5,gd p 6] from rfl]
 generalize sharesOk (gd p 13)=b0
 cases b0 <;> rfl
def i_LetterOkg3 (p:List D):Bool:=(hasB (formI (gd p 0).int) 108||(((gd p 12).rows.length:Int)==0))&&i_LetterOkg2 p
theorem i_LetterOkx3 (p:List D):i_LetterOks3 0 p=ob (i_LetterOkg3 p):=by
 unfold i_LetterOks3 i_LetterOkg3
 try rw [i_LetterOkx2 p]
 generalize i_LetterOkg2 p=y
 try simp only [show i_letterHasF [gd p 0]=formI (gd p 0).int from rfl,form_len (gd p 0).int,nd_true,bne_not,show rangeOk (sub p 5 2)=rangeOk [gd p 5,gd p 6] from rfl]
 generalize hasB (formI (gd p 0).int) 108=b0
 generalize (((gd p 12).rows.length:Int)==0)=b1
 cases b0 <;> cases b1 <;> rfl
def i_LetterOkg4 (p:List D):Bool:=storeOk (gd p 12)&&i_LetterOkg3 p
theorem i_LetterOkx4 (p:List D):i_LetterOks4 0 p=ob (i_LetterOkg4 p):=by
 unfold i_LetterOks4 i_LetterOkg4
 try rw [i_LetterOkx3 p]
 generalize i_LetterOkg3 p=y
 try simp only [show i_letterHasF [gd p 0]=formI (gd p 0).int from rfl,form_len (gd p 0).int,nd_true,bne_not,show rangeOk (sub p 5 2)=rangeOk [gd p 5,gd p 6] from rfl]
 generalize storeOk (gd p 12)=b0
 cases b0 <;> rfl
def i_LetterOkg5 (p:List D):Bool:=(hasB (formI (gd p 0).int) 87||(((gd p 11).rows.length:Int)==0))&&i_LetterOkg4 p
theorem i_LetterOkx5 (p:List D):i_LetterOks5 0 p=ob (i_LetterOkg5 p):=by
 unfold i_LetterOks5 i_LetterOkg5
 try rw [i_LetterOkx4 p]
 generalize i_LetterOkg4 p=y
 try simp only [show i_letterHasF [gd p 0]=formI (gd p 0).int from rfl,form_len (gd p 0).int,nd_true,bne_not,show rangeOk (sub p 5 2)=rangeOk [gd p 5,gd p 6] from rfl]
 generalize hasB (formI (gd p 0).int) 87=b0
 generalize (((gd p 11).rows.length:Int)==0)=b1
 cases b0 <;> cases b1 <;> rfl
def i_LetterOkg6 (p:List D):Bool:=writesOk (gd p 11)&&i_LetterOkg5 p
theorem i_LetterOkx6 (p:List D):i_LetterOks6 0 p=ob (i_LetterOkg6 p):=by
 unfold i_LetterOks6 i_LetterOkg6
 try rw [i_LetterOkx5 p]
 generalize i_LetterOkg5 p=y
 try simp only [show i_letterHasF [gd p 0]=formI (gd p 0).int from rfl,form_len (gd p 0).int,nd_true,bne_not,show rangeOk (sub p 5 2)=rangeOk [gd p 5,gd p 6] from rfl]
 generalize writesOk (gd p 11)=b0
 cases b0 <;> rfl
def i_LetterOkg7 (p:List D):Bool:=(hasB (formI (gd p 0).int) 101||(((gd p 10).rows.length:Int)==0))&&i_LetterOkg6 p
theorem i_LetterOkx7 (p:List D):i_LetterOks7 0 p=ob (i_LetterOkg7 p):=by
 unfold i_LetterOks7 i_LetterOkg7
 try rw [i_LetterOkx6 p]
 generalize i_LetterOkg6 p=y
 try simp only [show i_letterHasF [gd p 0]=formI (gd p 0).int from rfl,form_len (gd p 0).int,nd_true,bne_not,show rangeOk (sub p 5 2)=rangeOk [gd p 5,gd p 6] from rfl]
 generalize hasB (formI (gd p 0).int) 101=b0
 generalize (((gd p 10).rows.length:Int)==0)=b1
 cases b0 <;> cases b1 <;> rfl
def i_LetterOkg8 (p:List D):Bool:=readsOk (gd p 10)&&i_LetterOkg7 p
theorem i_LetterOkx8 (p:List D):i_LetterOks8 0 p=ob (i_LetterOkg8 p):=by
 unfold i_LetterOks8 i_LetterOkg8
 try rw [i_LetterOkx7 p]
 generalize i_LetterOkg7 p=y
 try simp only [show i_letterHasF [gd p 0]=formI (gd p 0).int from rfl,form_len (gd p 0).int,nd_true,bne_not,show rangeOk (sub p 5 2)=rangeOk [gd p 5,gd p 6] from rfl]
 generalize readsOk (gd p 10)=b0
 cases b0 <;> rfl
def i_LetterOkg9 (p:List D):Bool:=(hasB (formI (gd p 0).int) 89 || !(gd p 9).bool)&&i_LetterOkg8 p
theorem i_LetterOkx9 (p:List D):i_LetterOks9 0 p=ob (i_LetterOkg9 p):=by
 unfold i_LetterOks9 i_LetterOkg9
 try rw [i_LetterOkx8 p]
 generalize i_LetterOkg8 p=y
 try simp only [show i_letterHasF [gd p 0]=formI (gd p 0).int from rfl,form_len (gd p 0).int,nd_true,bne_not,show rangeOk (sub p 5 2)=rangeOk [gd p 5,gd p 6] from rfl]
 generalize hasB (formI (gd p 0).int) 89=b0
 generalize (gd p 9).bool=b1
 cases b0 <;> cases b1 <;> rfl
def i_LetterOkg10 (p:List D):Bool:=((gd p 6).int==0)&&i_LetterOkg9 p
theorem i_LetterOkx10 (p:List D):i_LetterOks10 0 p=ob (i_LetterOkg10 p):=by
 unfold i_LetterOks10 i_LetterOkg10
 try rw [i_LetterOkx9 p]
 generalize i_LetterOkg9 p=y
 try simp only [show i_letterHasF [gd p 0]=formI (gd p 0).int from rfl,form_len (gd p 0).int,nd_true,bne_not,show rangeOk (sub p 5 2)=rangeOk [gd p 5,gd p 6] from rfl]
 generalize ((gd p 6).int==0)=b0
 cases b0 <;> rfl
def i_LetterOkg11 (p:List D):Bool:=(bif hasB (formI (gd p 0).int) 107 then true else ((gd p 5).int==0)&&((gd p 6).int==0))&&i_LetterOkg9 p
theorem i_LetterOkx11 (p:List D):i_LetterOks11 0 p=ob (i_LetterOkg11 p):=by
 unfold i_LetterOks11 i_LetterOkg11
 rw [i_LetterOkx10]
 unfold i_LetterOkg10
 try rw [i_LetterOkx9 p]
 generalize i_LetterOkg9 p=y
 try simp only [show i_letterHasF [gd p 0]=formI (gd p 0).int from rfl,form_len (gd p 0).int,nd_true,bne_not,show rangeOk (sub p 5 2)=rangeOk [gd p 5,gd p 6] from rfl]
 generalize hasB (formI (gd p 0).int) 107=b0
 generalize ((gd p 5).int==0)=b1
 generalize ((gd p 6).int==0)=b2
 cases b0 <;> cases b1 <;> cases b2 <;> rfl
def i_LetterOkg12 (p:List D):Bool:=rangeOk [gd p 5,gd p 6]&&((bif hasB (formI (gd p 0).int) 107 then true else ((gd p 5).int==0)&&((gd p 6).int==0))&&i_LetterOkg9 p)
theorem i_LetterOkx12 (p:List D):i_LetterOks12 0 p=ob (i_LetterOkg12 p):=by
 unfold i_LetterOks12 i_LetterOkg12
 rw [i_LetterOkx11]
 unfold i_LetterOkg11
 try rw [i_LetterOkx9 p]
 generalize i_LetterOkg9 p=y
 try simp only [show i_letterHasF [gd p 0]=formI (gd p 0).int from rfl,form_len (gd p 0).int,nd_true,bne_not,show rangeOk (sub p 5 2)=rangeOk [gd p 5,gd p 6] from rfl]
 generalize rangeOk [gd p 5,gd p 6]=b0
 generalize hasB (formI (gd p 0).int) 107=b1
 generalize ((gd p 5).int==0)=b2
 generalize ((gd p 6).int==0)=b3
 cases b0 <;> cases b1 <;> cases b2 <;> cases b3 <;> rfl
def i_LetterOkg13 (p:List D):Bool:=(bif hasB (formI (gd p 0).int) 107 then rangeOk [gd p 5,gd p 6] else ((gd p 5).int==0)&&((gd p 6).int==0))&&i_LetterOkg9 p
theorem i_LetterOkx13 (p:List D):i_LetterOks13 0 p=ob (i_LetterOkg13 p):=by
 unfold i_LetterOks13 i_LetterOkg13
 rw [i_LetterOkx12,i_LetterOkx11]
 unfold i_LetterOkg12 i_LetterOkg11
 try rw [i_LetterOkx9 p]
 generalize i_LetterOkg9 p=y
 try simp only [show i_letterHasF [gd p 0]=formI (gd p 0).int from rfl,form_len (gd p 0).int,nd_true,bne_not,show rangeOk (sub p 5 2)=rangeOk [gd p 5,gd p 6] from rfl]
 generalize rangeOk [gd p 5,gd p 6]=b0
 generalize hasB (formI (gd p 0).int) 107=b1
 generalize ((gd p 5).int==0)=b2
 generalize ((gd p 6).int==0)=b3
 cases b0 <;> cases b1 <;> cases b2 <;> cases b3 <;> rfl
def i_LetterOkg14 (p:List D):Bool:=numOk (hasB (formI (gd p 0).int) 99) (gd p 8).int 0 7&&i_LetterOkg13 p
theorem i_LetterOkx14 (p:List D):i_LetterOks14 0 p=ob (i_LetterOkg14 p):=by
 unfold i_LetterOks14 i_LetterOkg14
 try rw [i_LetterOkx13 p]
 generalize i_LetterOkg13 p=y
 try simp only [show i_letterHasF [gd p 0]=formI (gd p 0).int from rfl,form_len (gd p 0).int,nd_true,bne_not,show rangeOk (sub p 5 2)=rangeOk [gd p 5,gd p 6] from rfl]
 generalize numOk (hasB (formI (gd p 0).int) 99) (gd p 8).int 0 7=b0
 cases b0 <;> rfl
def i_LetterOkg15 (p:List D):Bool:=numOk (hasB (formI (gd p 0).int) 78) (gd p 7).int 1 1000000&&i_LetterOkg14 p
theorem i_LetterOkx15 (p:List D):i_LetterOks15 0 p=ob (i_LetterOkg15 p):=by
 unfold i_LetterOks15 i_LetterOkg15
 try rw [i_LetterOkx14 p]
 generalize i_LetterOkg14 p=y
 try simp only [show i_letterHasF [gd p 0]=formI (gd p 0).int from rfl,form_len (gd p 0).int,nd_true,bne_not,show rangeOk (sub p 5 2)=rangeOk [gd p 5,gd p 6] from rfl]
 generalize numOk (hasB (formI (gd p 0).int) 78) (gd p 7).int 1 1000000=b0
 cases b0 <;> rfl
def i_LetterOkg16 (p:List D):Bool:=numOk (hasB (formI (gd p 0).int) 84) (gd p 4).int 1 60&&i_LetterOkg15 p
theorem i_LetterOkx16 (p:List D):i_LetterOks16 0 p=ob (i_LetterOkg16 p):=by
 unfold i_LetterOks16 i_LetterOkg16
 try rw [i_LetterOkx15 p]
 generalize i_LetterOkg15 p=y
 try simp only [show i_letterHasF [gd p 0]=formI (gd p 0).int from rfl,form_len (gd p 0).int,nd_true,bne_not,show rangeOk (sub p 5 2)=rangeOk [gd p 5,gd p 6] from rfl]
 generalize numOk (hasB (formI (gd p 0).int) 84) (gd p 4).int 1 60=b0
 cases b0 <;> rfl
def i_LetterOkg17 (p:List D):Bool:=numOk (hasB (formI (gd p 0).int) 82) (gd p 3).int 1 1000000000&&i_LetterOkg16 p
theorem i_LetterOkx17 (p:List D):i_LetterOks17 0 p=ob (i_LetterOkg17 p):=by
 unfold i_LetterOks17 i_LetterOkg17
 try rw [i_LetterOkx16 p]
 generalize i_LetterOkg16 p=y
 try simp only [show i_letterHasF [gd p 0]=formI (gd p 0).int from rfl,form_len (gd p 0).int,nd_true,bne_not,show rangeOk (sub p 5 2)=rangeOk [gd p 5,gd p 6] from rfl]
 generalize numOk (hasB (formI (gd p 0).int) 82) (gd p 3).int 1 1000000000=b0
 cases b0 <;> rfl
def i_LetterOkg18 (p:List D):Bool:=numOk (hasB (formI (gd p 0).int) 67) (gd p 2).int 0 5&&i_LetterOkg17 p
theorem i_LetterOkx18 (p:List D):i_LetterOks18 0 p=ob (i_LetterOkg18 p):=by
 unfold i_LetterOks18 i_LetterOkg18
 try rw [i_LetterOkx17 p]
 generalize i_LetterOkg17 p=y
 try simp only [show i_letterHasF [gd p 0]=formI (gd p 0).int from rfl,form_len (gd p 0).int,nd_true,bne_not,show rangeOk (sub p 5 2)=rangeOk [gd p 5,gd p 6] from rfl]
 generalize numOk (hasB (formI (gd p 0).int) 67) (gd p 2).int 0 5=b0
 cases b0 <;> rfl
def i_LetterOkg19 (p:List D):Bool:=numOk (hasB (formI (gd p 0).int) 71) (gd p 1).int 0 3&&i_LetterOkg18 p
theorem i_LetterOkx19 (p:List D):i_LetterOks19 0 p=ob (i_LetterOkg19 p):=by
 unfold i_LetterOks19 i_LetterOkg19
 try rw [i_LetterOkx18 p]
 generalize i_LetterOkg18 p=y
 try simp only [show i_letterHasF [gd p 0]=formI (gd p 0).int from rfl,form_len (gd p 0).int,nd_true,bne_not,show rangeOk (sub p 5 2)=rangeOk [gd p 5,gd p 6] from rfl]
 generalize numOk (hasB (formI (gd p 0).int) 71) (gd p 1).int 0 3=b0
 cases b0 <;> rfl
def i_LetterOkg20 (p:List D):Bool:= !((formI (gd p 0).int) == [])&&i_LetterOkg19 p
theorem i_LetterOkx20 (p:List D):i_LetterOks20 0 p=ob (i_LetterOkg20 p):=by
 unfold i_LetterOks20 i_LetterOkg20
 try rw [i_LetterOkx19 p]
 generalize i_LetterOkg19 p=y
 try simp only [show i_letterHasF [gd p 0]=formI (gd p 0).int from rfl,form_len (gd p 0).int,nd_true,bne_not,show rangeOk (sub p 5 2)=rangeOk [gd p 5,gd p 6] from rfl]
 generalize ((formI (gd p 0).int) == [])=b0
 cases b0 <;> rfl
def i_LetterOkE:Ent:=(67,e1 (ag rILetter) fun p=>(⟨rb,[.b (letterOk p)]⟩,true))
theorem i_LetterOk_ok:EntOk Tryz.prog i_LetterOkE:=e1_ok fun p h=>evFn_sound (N:=0) (ks:=i_LetterOkK) (key:=bo) i_LetterOkT_ok (enters Tryz.func67) Tryz.func67 fun hw=>by
 rw [i_LetterOk_ev]
 exact congrArg (fun x=>some (bo,x)) ((i_LetterOkx20 p).trans rfl)
abbrev s_LetterOkT:FuncId→List T→Option (T × Bool):=find [s_l16HasE,s_l4InE,s_l4NumE,s_l16RangeOkE,s_WritesOkE,s_StoreOkE,s_SharesOkE,s_RangeOkE,s_l14VotesE]
theorem s_LetterOkT_ok:CallOk Tryz.prog s_LetterOkT:=find_ok (fC ⟨s_l16Has_ok,fC ⟨s_l4In_ok,fC ⟨s_l4Num_ok,fC ⟨s_l16RangeOk_ok,fC ⟨s_WritesOk_ok,fC ⟨s_StoreOk_ok,fC ⟨s_SharesOk_ok,fC ⟨s_RangeOk_ok,fC ⟨s_l14Votes_ok,fN⟩⟩⟩⟩⟩⟩⟩⟩⟩)
abbrev s_LetterOkK:List Nat:= [0,1,2,3,4,41,64,89,155,160,169,1000041,1000064,1000089,1000155,1000160,1000169,3000004,3000006,3000008]
noncomputable def s_LetterOkL0 (N:Nat) (p:List D):List D→Out:=loopOf Tryz.prog s_LetterOkT N s_LetterOkK Tryz.f49 rb [⟨ag rILetter,p⟩] 0
theorem s_LetterOkR0 (N:Nat) (p:List D) (x0 x1 x2 x3 x4 x5 x6 x7 x8 x9 x10 x11 x12 x13 x14 x15 x16 x17 x18 x19 x20 x21 x22 x23 x24 x25 x26 x27 x28 x29 x30 x31:D):(s_LetterOkL0 N p) [x0,x1,x2,x3,x4,x5,x6,x7,x8,x9,x10,x11,x12,x13,x14,x15,x16,x17,x18,x19,x20,x21,x22,x23,x24,x25,x26,x27,x28,x29,x30,x31] =
 bif ltI x17.int (x28.rows.length:Int) then nd (inRange x17.int x28.rows.length) (bif !(rangeOk (sub (x28.rows.getD x17.int.toNat []) 0 2)) then ob false
 else nx [x0,x1,x2,x3,x4,x5,x6,x7,x8,x9,x10,x11,x12,x13,x14,x15,x16,.i (w64 (x17.int+1)),x18,x19,x20,x21,x22,x23,x24,x25,x26,x27,x28,x29,x30,x31])
 else ex 0 [x0,x1,x2,x3,x4,x5,x6,x7,x8,x9,x10,x11,x12,x13,x14,x15,x16,x17,x18,x19,x20,x21,x22,x23,x24,x25,x26,x27,x28,x29,x30,x31]:=by kernel_rfl
noncomputable def s_LetterOks0 (N:Nat) (p:List D):Out:=nd (leI ((lettersS (gd p 0).int).str.length:Int) 100) (nx [gd p 0,gd p 1,gd p 2,gd p 3,gd p 4,gd p 5,gd p 6,gd p 7,gd p 8,gd p 9,gd p 10,gd p 11,gd p 12,gd p 13,.i 0,.b false,lettersS (gd p 0).int,.b (!(hasB (lettersS (gd p 0).int).str 121)),gd p 0,gd p 1,gd p 2,gd p 3,gd p 4,gd p 5,gd p 6,gd p 7,gd p 8,gd p 9,gd p 10,gd p 11,gd p 12,gd p 13])
noncomputable def s_LetterOks1 (N:Nat) (p:List D):Out:=bif (gd p 9).bool then (s_LetterOks0 N p) else nx [gd p 0,gd p 1,gd p 2,gd p 3,gd p 4,gd p 5,gd p 6,gd p 7,gd p 8,gd p 9,gd p 10,gd p 11,gd p 12,gd p 13,.i 0,.b false,lettersS (gd p 0).int,.b false,gd p 0,gd p 1,gd p 2,gd p 3,gd p 4,gd p 5,gd p 6,gd p 7,gd p 8,gd p 9,gd p 10,gd p 11,gd p 12,gd p 13]
noncomputable def s_LetterOks2 (N:Nat) (p:List D):Out:=bif !(numOk (hasB (lettersS (gd p 0).int).str 107) (gd p 8).int 0 7) then nx [gd p 0,gd p 1,gd p 2,gd p 3,gd p 4,gd p 5,gd p 6,gd p 7,gd p 8,gd p 9,gd p 10,gd p 11,gd p 12,gd p 13,.i 0,.b false,lettersS (gd p 0).int,.b true,gd p 0,gd p 1,gd p 2,gd p 3,gd p 4,gd p 5,gd p 6,gd p 7,gd p 8,gd p 9,gd p 10,gd p 11,gd p 12,gd p 13] else (s_LetterOks1 N p)
noncomputable def s_LetterOks3 (N:Nat) (p:List D):Out:=bif !(numOk (hasB (lettersS (gd p 0).int).str 110) (gd p 7).int 1 1000000) then nx [gd p 0,gd p 1,gd p 2,gd p 3,gd p 4,gd p 5,gd p 6,gd p 7,gd p 8,gd p 9,gd p 10,gd p 11,gd p 12,gd p 13,.i 0,.b false,lettersS (gd p 0).int,.b true,gd p 0,gd p 1,gd p 2,gd p 3,gd p 4,gd p 5,gd p 6,gd p 7,gd p 8,gd p 9,gd p 10,gd p 11,gd p 12,gd p 13] else nd (leI ((lettersS (gd p 0).int).str.length:Int) 100) (s_LetterOks2 N p)
noncomputable def s_LetterOks4 (N:Nat) (p:List D) (r4:Out):Out:=bif (gd r4.pay 23).int != 0 then nx [gd r4.pay 0,gd r4.pay 1,gd r4.pay 2,gd r4.pay 3,gd r4.pay 4,gd r4.pay 5,gd r4.pay 6,gd r4.pay 7,gd r4.pay 8,gd r4.pay 9,gd r4.pay 10,gd r4.pay 11,gd r4.pay 12,gd r4.pay 13,gd r4.pay 14,gd r4.pay 15,gd r4.pay 16,.b true,gd r4.pay 18,gd r4.pay 19,gd r4.pay 20,gd r4.pay 21,gd r4.pay 22,gd r4.pay 23,gd r4.pay 24,gd r4.pay 25,gd r4.pay 26,gd r4.pay 27,gd r4.pay 28,gd r4.pay 29,gd r4.pay 30,gd r4.pay 31] else nx [gd r4.pay 0,gd r4.pay 1,gd r4.pay 2,gd r4.pay 3,gd r4.pay 4,gd r4.pay 5,gd r4.pay 6,gd r4.pay 7,gd r4.pay 8,gd r4.pay 9,gd r4.pay 10,gd r4.pay 11,gd r4.pay 12,gd r4.pay 13,gd r4.pay 14,gd r4.pay 15,gd r4.pay 16,.b ((gd r4.pay 24).int != 0),gd r4.pay 18,gd r4.pay 19,gd r4.pay 20,gd r4.pay 21,gd r4.pay 22,gd r4.pay 23,gd r4.pay 24,gd r4.pay 25,gd r4.pay 26,gd r4.pay 27,gd r4.pay 28,gd r4.pay 29,gd r4.pay 30,gd r4.pay 31]
noncomputable def s_LetterOks5 (N:Nat) (p:List D) (r4:Out):Out:=bif !(hasB (gd r4.pay 16).str 114) then (s_LetterOks4 N p r4) else nx [gd r4.pay 0,gd r4.pay 1,gd r4.pay 2,gd r4.pay 3,gd r4.pay 4,gd r4.pay 5,gd r4.pay 6,gd r4.pay 7,gd r4.pay 8,gd r4.pay 9,gd r4.pay 10,gd r4.pay 11,gd r4.pay 12,gd r4.pay 13,gd r4.pay 14,gd r4.pay 15,gd r4.pay 16,.b false,gd r4.pay 18,gd r4.pay 19,gd r4.pay 20,gd r4.pay 21,gd r4.pay 22,gd r4.pay 23,gd r4.pay 24,gd r4.pay 25,gd r4.pay 26,gd r4.pay 27,gd r4.pay 28,gd r4.pay 29,gd r4.pay 30,gd r4.pay 31]
noncomputable def s_LetterOks6 (N:Nat) (p:List D) (r4:Out):Out:=bif !(rangeOk [(gd r4.pay 23),(gd r4.pay 24)]) then nx [gd r4.pay 0,gd r4.pay 1,gd r4.pay 2,gd r4.pay 3,gd r4.pay 4,gd r4.pay 5,gd r4.pay 6,gd r4.pay 7,gd r4.pay 8,gd r4.pay 9,gd r4.pay 10,gd r4.pay 11,gd r4.pay 12,gd r4.pay 13,gd r4.pay 14,gd r4.pay 15,gd r4.pay 16,.b true,gd r4.pay 18,gd r4.pay 19,gd r4.pay 20,gd r4.pay 21,gd r4.pay 22,gd r4.pay 23,gd r4.pay 24,gd r4.pay 25,gd r4.pay 26,gd r4.pay 27,gd r4.pay 28,gd r4.pay 29,gd r4.pay 30,gd r4.pay 31] else nd (leI ((gd r4.pay 16).str.length:Int) 100) (s_LetterOks5 N p r4)
noncomputable def s_LetterOks7 (N:Nat) (p:List D) (r4:Out):Out:=bif hasB (gd r4.pay 16).str 114 then (s_LetterOks6 N p r4) else nd (leI ((gd r4.pay 16).str.length:Int) 100) (s_LetterOks5 N p r4)
noncomputable def s_LetterOks8 (N:Nat) (p:List D) (r6:Out):Out:=bif !(hasB (gd r6.pay 16).str 83) then nx [gd r6.pay 0,gd r6.pay 1,gd r6.pay 2,gd r6.pay 3,gd r6.pay 4,gd r6.pay 5,gd r6.pay 6,gd r6.pay 7,gd r6.pay 8,gd r6.pay 9,gd r6.pay 10,gd r6.pay 11,gd r6.pay 12,gd r6.pay 13,gd r6.pay 14,gd r6.pay 15,gd r6.pay 16,.b (ltI 0 ((gd r6.pay 31).rows.length:Int)),gd r6.pay 18,gd r6.pay 19,gd r6.pay 20,gd r6.pay 21,gd r6.pay 22,gd r6.pay 23,gd r6.pay 24,gd r6.pay 25,gd r6.pay 26,gd r6.pay 27,gd r6.pay 28,gd r6.pay 29,gd r6.pay 30,gd r6.pay 31] else nx [gd r6.pay 0,gd r6.pay 1,gd r6.pay 2,gd r6.pay 3,gd r6.pay 4,gd r6.pay 5,gd r6.pay 6,gd r6.pay 7,gd r6.pay 8,gd r6.pay 9,gd r6.pay 10,gd r6.pay 11,gd r6.pay 12,gd r6.pay 13,gd r6.pay 14,gd r6.pay 15,gd r6.pay 16,.b false,gd r6.pay 18,gd r6.pay 19,gd r6.pay 20,gd r6.pay 21,gd r6.pay 22,gd r6.pay 23,gd r6.pay 24,gd r6.pay 25,gd r6.pay 26,gd r6.pay 27,gd r6.pay 28,gd r6.pay 29,gd r6.pay 30,gd r6.pay 31]
noncomputable def s_LetterOks9 (N:Nat) (p:List D) (r6:Out):Out:=bif !(sharesOk (gd r6.pay 31)) then nx [gd r6.pay 0,gd r6.pay 1,gd r6.pay 2,gd r6.pay 3,gd r6.pay 4,gd r6.pay 5,gd r6.pay 6,gd r6.pay 7,gd r6.pay 8,gd r6.pay 9,gd r6.pay 10,gd r6.pay 11,gd r6.pay 12,gd r6.pay 13,gd r6.pay 14,gd r6.pay 15,gd r6.pay 16,.b true,gd r6.pay 18,gd r6.pay 19,gd r6.pay 20,gd r6.pay 21,gd r6.pay 22,gd r6.pay 23,gd r6.pay 24,gd r6.pay 25,gd r6.pay 26,gd r6.pay 27,gd r6.pay 28,gd r6.pay 29,gd r6.pay 30,gd r6.pay 31] else nd (leI ((gd r6.pay 16).str.length:Int) 100) (s_LetterOks8 N p r6)
noncomputable def s_LetterOks10 (N:Nat) (p:List D) (r6:Out):Out:=bif ltI 0 ((gd r6.pay 30).rows.length:Int) then nx [gd r6.pay 0,gd r6.pay 1,gd r6.pay 2,gd r6.pay 3,gd r6.pay 4,gd r6.pay 5,gd r6.pay 6,gd r6.pay 7,gd r6.pay 8,gd r6.pay 9,gd r6.pay 10,gd r6.pay 11,gd r6.pay 12,gd r6.pay 13,gd r6.pay 14,gd r6.pay 15,gd r6.pay 16,.b true,gd r6.pay 18,gd r6.pay 19,gd r6.pay 20,gd r6.pay 21,gd r6.pay 22,gd r6.pay 23,gd r6.pay 24,gd r6.pay 25,gd r6.pay 26,gd r6.pay 27,gd r6.pay 28,gd r6.pay 29,gd r6.pay 30,gd r6.pay 31] else (s_LetterOks9 N p r6)
noncomputable def s_LetterOks11 (N:Nat) (p:List D) (r6:Out):Out:=nd (leI ((gd r6.pay 16).str.length:Int) 100) (bif !(hasB (gd r6.pay 16).str 67) then (s_LetterOks10 N p r6) else (s_LetterOks9 N p r6))
noncomputable def s_LetterOks12 (N:Nat) (p:List D) (r6:Out):Out:=bif !(storeOk (gd r6.pay 30)) then nx [gd r6.pay 0,gd r6.pay 1,gd r6.pay 2,gd r6.pay 3,gd r6.pay 4,gd r6.pay 5,gd r6.pay 6,gd r6.pay 7,gd r6.pay 8,gd r6.pay 9,gd r6.pay 10,gd r6.pay 11,gd r6.pay 12,gd r6.pay 13,gd r6.pay 14,gd r6.pay 15,gd r6.pay 16,.b true,gd r6.pay 18,gd r6.pay 19,gd r6.pay 20,gd r6.pay 21,gd r6.pay 22,gd r6.pay 23,gd r6.pay 24,gd r6.pay 25,gd r6.pay 26,gd r6.pay 27,gd r6.pay 28,gd r6.pay 29,gd r6.pay 30,gd r6.pay 31] else (s_LetterOks11 N p r6)
noncomputable def s_LetterOks13 (N:Nat) (p:List D) (r6:Out):Out:=bif ltI 0 ((gd r6.pay 29).rows.length:Int) then nx [gd r6.pay 0,gd r6.pay 1,gd r6.pay 2,gd r6.pay 3,gd r6.pay 4,gd r6.pay 5,gd r6.pay 6,gd r6.pay 7,gd r6.pay 8,gd r6.pay 9,gd r6.pay 10,gd r6.pay 11,gd r6.pay 12,gd r6.pay 13,gd r6.pay 14,gd r6.pay 15,gd r6.pay 16,.b true,gd r6.pay 18,gd r6.pay 19,gd r6.pay 20,gd r6.pay 21,gd r6.pay 22,gd r6.pay 23,gd r6.pay 24,gd r6.pay 25,gd r6.pay 26,gd r6.pay 27,gd r6.pay 28,gd r6.pay 29,gd r6.pay 30,gd r6.pay 31] else (s_LetterOks12 N p r6)
noncomputable def s_LetterOks14 (N:Nat) (p:List D) (r6:Out):Out:=nd (leI ((gd r6.pay 16).str.length:Int) 100) (bif !(hasB (gd r6.pay 16).str 87) then (s_LetterOks13 N p r6) else (s_LetterOks12 N p r6))
noncomputable def s_LetterOks15 (N:Nat) (p:List D) (r6:Out):Out:=bif !(writesOk (gd r6.pay 29)) then nx [gd r6.pay 0,gd r6.pay 1,gd r6.pay 2,gd r6.pay 3,gd r6.pay 4,gd r6.pay 5,gd r6.pay 6,gd r6.pay 7,gd r6.pay 8,gd r6.pay 9,gd r6.pay 10,gd r6.pay 11,gd r6.pay 12,gd r6.pay 13,gd r6.pay 14,gd r6.pay 15,gd r6.pay 16,.b true,gd r6.pay 18,gd r6.pay 19,gd r6.pay 20,gd r6.pay 21,gd r6.pay 22,gd r6.pay 23,gd r6.pay 24,gd r6.pay 25,gd r6.pay 26,gd r6.pay 27,gd r6.pay 28,gd r6.pay 29,gd r6.pay 30,gd r6.pay 31] else (s_LetterOks14 N p r6)
noncomputable def s_LetterOks16 (N:Nat) (p:List D) (r6:Out):Out:=bif ltI 0 ((gd r6.pay 28).rows.length:Int) then nx [gd r6.pay 0,gd r6.pay 1,gd r6.pay 2,gd r6.pay 3,gd r6.pay 4,gd r6.pay 5,gd r6.pay 6,gd r6.pay 7,gd r6.pay 8,gd r6.pay 9,gd r6.pay 10,gd r6.pay 11,gd r6.pay 12,gd r6.pay 13,gd r6.pay 14,gd r6.pay 15,gd r6.pay 16,.b true,gd r6.pay 18,gd r6.pay 19,gd r6.pay 20,gd r6.pay 21,gd r6.pay 22,gd r6.pay 23,gd r6.pay 24,gd r6.pay 25,gd r6.pay 26,gd r6.pay 27,gd r6.pay 28,gd r6.pay 29,gd r6.pay 30,gd r6.pay 31] else (s_LetterOks15 N p r6)
noncomputable def s_LetterOks17 (N:Nat) (p:List D) (r6:Out):Out:=nd (leI ((gd r6.pay 16).str.length:Int) 100) (bif !(hasB (gd r6.pay 16).str 82) then (s_LetterOks16 N p r6) else (s_LetterOks15 N p r6))
noncomputable def s_LetterOks18 (N:Nat) (p:List D) (r6:Out):Out:=bif ltI 16 ((gd r6.pay 28).rows.length:Int) then nx [gd r6.pay 0,gd r6.pay 1,gd r6.pay 2,gd r6.pay 3,gd r6.pay 4,gd r6.pay 5,gd r6.pay 6,gd r6.pay 7,gd r6.pay 8,gd r6.pay 9,gd r6.pay 10,gd r6.pay 11,gd r6.pay 12,gd r6.pay 13,gd r6.pay 14,gd r6.pay 15,gd r6.pay 16,.b true,gd r6.pay 18,gd r6.pay 19,gd r6.pay 20,gd r6.pay 21,gd r6.pay 22,gd r6.pay 23,gd r6.pay 24,gd r6.pay 25,gd r6.pay 26,gd r6.pay 27,gd r6.pay 28,gd r6.pay 29,gd r6.pay 30,gd r6.pay 31] else (s_LetterOks17 N p r6)
noncomputable def s_LetterOks19 (N:Nat) (p:List D) (o0:Out):Out:=bif o0.code==1 then some (1,o0.pay) else nd (o0.code==2) (ob ((votesN (gd o0.pay 31) 0)==((gd o0.pay 31).rows.length:Int)))
noncomputable def s_LetterOks20 (N:Nat) (p:List D) (r8:Out):Out:=let o0:Out:=iter (s_LetterOkL0 N p) N [gd r8.pay 0,gd r8.pay 1,gd r8.pay 2,gd r8.pay 3,gd r8.pay 4,gd r8.pay 5,gd r8.pay 6,gd r8.pay 7,gd r8.pay 8,gd r8.pay 9,gd r8.pay 10,gd r8.pay 11,gd r8.pay 12,gd r8.pay 13,gd r8.pay 14,gd r8.pay 15,gd r8.pay 16,.i 0,gd r8.pay 18,gd r8.pay 19,gd r8.pay 20,gd r8.pay 21,gd r8.pay 22,gd r8.pay 23,gd r8.pay 24,gd r8.pay 25,gd r8.pay 26,gd r8.pay 27,gd r8.pay 28,gd r8.pay 29,gd r8.pay 30,gd r8.pay 31]; nd o0.isSome (s_LetterOks19 N p o0)
noncomputable def s_LetterOks21 (N:Nat) (p:List D) (r6:Out):Out:=let r8:Out:=(s_LetterOks18 N p r6); nd r8.isSome (bif (gd r8.pay 17).bool then ob false else (s_LetterOks20 N p r8))
noncomputable def s_LetterOks22 (N:Nat) (p:List D) (r4:Out):Out:=let r6:Out:=nd (leI ((gd r4.pay 16).str.length:Int) 100) (s_LetterOks7 N p r4); nd r6.isSome (bif (gd r6.pay 17).bool then ob false else (s_LetterOks21 N p r6))
noncomputable def s_LetterOks23 (N:Nat) (p:List D):Out:=let r4:Out:=nd (leI ((lettersS (gd p 0).int).str.length:Int) 100) (s_LetterOks3 N p); nd r4.isSome (bif (gd r4.pay 17).bool then ob false else (s_LetterOks22 N p r4))
noncomputable def s_LetterOks24 (N:Nat) (p:List D):Out:=bif !(numOk (hasB (lettersS (gd p 0).int).str 116) (gd p 4).int 1 60) then ob false else (s_LetterOks23 N p)
noncomputable def s_LetterOks25 (N:Nat) (p:List D):Out:=bif !(numOk (hasB (lettersS (gd p 0).int).str 113) (gd p 3).int 1 1000000000) then ob false else nd (leI ((lettersS (gd p 0).int).str.length:Int) 100) (s_LetterOks24 N p)
noncomputable def s_LetterOks26 (N:Nat) (p:List D):Out:=bif !(numOk (hasB (lettersS (gd p 0).int).str 99) (gd p 2).int 0 5) then ob false else nd (leI ((lettersS (gd p 0).int).str.length:Int) 100) (s_LetterOks25 N p)
noncomputable def s_LetterOks27 (N:Nat) (p:List D):Out:=bif !(numOk (hasB (lettersS (gd p 0).int).str 103) (gd p 1).int 0 3) then ob false else nd (leI ((lettersS (gd p 0).int).str.length:Int) 100) (s_LetterOks26 N p)
noncomputable def s_LetterOks28 (N:Nat) (p:List D):Out:=bif (lettersS (gd p 0).int).str == [] then ob false else nd (leI ((lettersS (gd p 0).int).str.length:Int) 100) (s_LetterOks27 N p)
theorem s_LetterOk_ev (N:Nat) (p:List D):evFn Tryz.prog s_LetterOkT N s_LetterOkK Tryz.f49 rb [⟨ag rILetter,p⟩]=some (bo,(s_LetterOks28 N p)):=by kernel_rfl
def letterG (p:List D) (f:List UInt8):Bool:= !(f == [])&&(numOk (hasB f 71) (gd p 1).int 0 3&&(numOk (hasB f 67) (gd p 2).int 0 5&&(numOk (hasB f 82) (gd p 3).int 1 1000000000&&(numOk (hasB f 84) (gd p 4).int 1 60&&(numOk (hasB f 78) (gd p 7).int 1 1000000&&(numOk (hasB f 99) (gd p 8).int 0 7&&((hasB f 89 || !(gd p 9).bool)&&((bif hasB f 107 then rangeOk [gd p 5,gd p 6] else ((gd p 5).int==0)&&((gd p 6).int==0))&&(decide (((gd p 10).rows.length:Int)≤16)&&((hasB f 101||(((gd p 10).rows.length:Int)==0))&&(writesOk (gd p 11)&&((hasB f 87||(((gd p 11).rows.length:Int)==0))&&(storeOk (gd p 12)&&((hasB f 108||(((gd p 12).rows.length:Int)==0))&&(sharesOk (gd p 13)&&((hasB f 83||(((gd p 13).rows.length:Int)==0))&&((((List.range (gd p 10).rows.length).all fun m=>rangeOk (sub ((gd p 10).rows.getD m []) 0 2))&&((votesN (gd p 13) 0:Int)==((gd p 13).rows.length:Int))))))))))))))))))))
theorem lt_zero (n:Nat):ltI 0 (n:Int) = !((n:Int)==0):=by
 rw [Bool.eq_iff_iff]; simp only [ltI,decide_eq_true_eq,Bool.not_eq_true',beq_eq_false_iff_ne,ne_eq]; omega
theorem lt_16 (n:Nat):ltI 16 (n:Int) = !decide ((n:Int)≤16):=by
 rw [Bool.eq_iff_iff]; simp only [ltI,decide_eq_true_eq,Bool.not_eq_true',decide_eq_false_iff_not]; omega
theorem votesN_all0 {z:D} (h:sharesOk z=true):((votesN z 0:Int)==z.rows.length)=(!votesAny z 1 && !votesAny z 2):=by
 have:=cnt_all (fun k=>(gd (sub (z.rows.getD k []) 0 4) 3).int==0) z.rows.length 0
 simp only [Nat.zero_add] at this
 rw [show ((votesN z 0:Int)==z.rows.length)=decide (votesN z 0=z.rows.length) from by
  by_cases e:votesN z 0=z.rows.length
  ·rw [decide_eq_true e]; exact beq_iff_eq.2 (by omega)
  ·rw [decide_eq_false e]; exact beq_eq_false_iff_ne.2 (by omega)]
 rw [show decide (votesN z 0=z.rows.length)=_ from this]
 have hs:∀ k,k<z.rows.length→inB (gd (sub (z.rows.getD k []) 0 4) 3).int 0 2=true:=fun k hk=>by
  simp only [sharesOk,Bool.and_eq_true,List.all_eq_true] at h
  have:=h.2 k (List.mem_range.2 hk)
  simp only [shareAt,Bool.and_eq_true] at this
  exact this.2.2.2.2
 rw [Bool.eq_iff_iff]
 simp only [votesAny,anyS,Bool.and_eq_true,Bool.not_eq_true',List.all_eq_true,List.any_eq_false,List.mem_range,beq_iff_eq]
 constructor
 ·intro h1
  exact ⟨fun k hk e=>absurd (e.symm.trans (h1 k hk)) (by decide),fun k hk e=>absurd (e.symm.trans (h1 k hk)) (by decide)⟩
 ·rintro ⟨h1,h2⟩ k hk
  have:=hs k hk
  simp only [inB,Bool.and_eq_true,decide_eq_true_eq] at this
  have n0:=h1 k hk
  have n2:=h2 k hk
  omega
theorem letter_same (p:List D) (f:List UInt8):letterG p f=letterF p f:=by
 unfold letterG letterF readsOk
 rw [reads_all]
 refine congrArg (and _) (congrArg (and _) (congrArg (and _) (congrArg (and _) (congrArg (and _) (congrArg (and _) (congrArg (and _) ?_))))))
 generalize (hasB f 89 || !(gd p 9).bool)=a
 generalize (bif hasB f 107 then rangeOk [gd p 5,gd p 6] else ((gd p 5).int==0)&&((gd p 6).int==0))=b
 generalize decide (((gd p 10).rows.length:Int)≤16)=c
 generalize (hasB f 101||(((gd p 10).rows.length:Int)==0))=d
 generalize writesOk (gd p 11)=e
 generalize (hasB f 87||(((gd p 11).rows.length:Int)==0))=g
 generalize storeOk (gd p 12)=m
 generalize (hasB f 108||(((gd p 12).rows.length:Int)==0))=n
 cases hs:sharesOk (gd p 13)
 ·simp only [Bool.and_false,Bool.false_and]
 ·rw [votesN_all0 hs]
  generalize (hasB f 83||(((gd p 13).rows.length:Int)==0))=o
  generalize (!votesAny (gd p 13) 1 && !votesAny (gd p 13) 2)=v
  generalize ((List.range (gd p 10).rows.length).all fun m=>rangeOk (sub ((gd p 10).rows.getD m []) 0 2))=w
  cases a
  ·simp only [Bool.false_and,Bool.and_false]
  ·cases b
   ·simp only [Bool.false_and,Bool.and_false]
   ·cases c
    ·simp only [Bool.false_and,Bool.and_false]
    ·cases w
     ·simp only [Bool.false_and,Bool.and_false]
     ·simp only [Bool.true_and,Bool.and_true]
def PX (p:List D) (b:Bool):List D:= [gd p 0,gd p 1,gd p 2,gd p 3,gd p 4,gd p 5,gd p 6,gd p 7,gd p 8,gd p 9,gd p 10,gd p 11,gd p 12,gd p 13,.i 0,.b false,lettersS (gd p 0).int,.b b,gd p 0,gd p 1,gd p 2,gd p 3,gd p 4,gd p 5,gd p 6,gd p 7,gd p 8,gd p 9,gd p 10,gd p 11,gd p 12,gd p 13]
theorem nx_and (p:List D) (a g:Bool):(bif !a then nx (PX p true) else nx (PX p (!g)))=nx (PX p (!(a&&g))):=by cases a <;> rfl
theorem nx_or (p:List D) (h g:Bool) (n:Nat):(bif !h then (bif ltI 0 (n:Int) then nx (PX p true) else nx (PX p (!g))) else nx (PX p (!g)))=nx (PX p (!((h||((n:Int)==0))&&g))):=by
 rw [lt_zero]
 cases h <;> cases ((n:Int)==0) <;> rfl
theorem ob_and (a g:Bool):(bif !a then ob false else ob g)=ob (a&&g):=by cases a <;> rfl
def s_LetterOkg1 (p:List D):Bool:=hasB (lettersS (gd p 0).int).str 121 || !(gd p 9).bool
theorem s_LetterOkx1 (p:List D):s_LetterOks1 17 p=nx (PX p (!s_LetterOkg1 p)):=by
 rw [show s_LetterOks1 17 p=(bif (gd p 9).bool then nd (leI (((lettersS (gd p 0).int).str.length:Int)) 100) (nx (PX p (!(hasB (lettersS (gd p 0).int).str 121)))) else nx (PX p false)) from by kernel_rfl,letters_len,nd_true]
 unfold s_LetterOkg1
 cases (gd p 9).bool <;> cases hasB (lettersS (gd p 0).int).str 121 <;> rfl
def s_LetterOkg2 (p:List D):Bool:=numOk (hasB (lettersS (gd p 0).int).str 107) (gd p 8).int 0 7&&s_LetterOkg1 p
theorem s_LetterOkx2 (p:List D):s_LetterOks2 17 p=nx (PX p (!s_LetterOkg2 p)):=by
 rw [show s_LetterOks2 17 p=(bif !(numOk (hasB (lettersS (gd p 0).int).str 107) (gd p 8).int 0 7) then nx (PX p true) else s_LetterOks1 17 p) from by kernel_rfl,s_LetterOkx1]
 exact nx_and p _ _
def s_LetterOkg3 (p:List D):Bool:=numOk (hasB (lettersS (gd p 0).int).str 110) (gd p 7).int 1 1000000&&s_LetterOkg2 p
theorem s_LetterOkx3 (p:List D):s_LetterOks3 17 p=nx (PX p (!s_LetterOkg3 p)):=by
 rw [show s_LetterOks3 17 p=(bif !(numOk (hasB (lettersS (gd p 0).int).str 110) (gd p 7).int 1 1000000) then nx (PX p true) else nd (leI (((lettersS (gd p 0).int).str.length:Int)) 100) (s_LetterOks2 17 p)) from by kernel_rfl,s_LetterOkx2,letters_len,nd_true]
 exact nx_and p _ _
def s_LetterOkg5 (p:List D):Bool:=hasB (lettersS (gd p 0).int).str 114||(((gd p 5).int==0)&&((gd p 6).int==0))
theorem s_LetterOkx5 (p:List D) (b:Bool):s_LetterOks5 17 p (nx (PX p b))=nx (PX p (!s_LetterOkg5 p)):=by
 rw [show s_LetterOks5 17 p (nx (PX p b))=(bif !(hasB (lettersS (gd p 0).int).str 114) then (bif (gd p 5).int != 0 then nx (PX p true) else nx (PX p ((gd p 6).int != 0))) else nx (PX p false)) from by kernel_rfl,bne_not,bne_not]
 unfold s_LetterOkg5
 cases hasB (lettersS (gd p 0).int).str 114 <;> cases ((gd p 5).int==0) <;> cases ((gd p 6).int==0) <;> rfl
def s_LetterOkg6 (p:List D):Bool:=rangeOk [gd p 5,gd p 6]&&s_LetterOkg5 p
theorem s_LetterOkx6 (p:List D) (b:Bool):s_LetterOks6 17 p (nx (PX p b))=nx (PX p (!s_LetterOkg6 p)):=by
 rw [show s_LetterOks6 17 p (nx (PX p b))=(bif !(rangeOk [gd p 5,gd p 6]) then nx (PX p true) else nd (leI (((lettersS (gd p 0).int).str.length:Int)) 100) (s_LetterOks5 17 p (nx (PX p b)))) from by kernel_rfl,s_LetterOkx5,letters_len,nd_true]
 exact nx_and p _ _
def s_LetterOkg7 (p:List D):Bool:=bif hasB (lettersS (gd p 0).int).str 114 then s_LetterOkg6 p else s_LetterOkg5 p
theorem s_LetterOkx7 (p:List D) (b:Bool):s_LetterOks7 17 p (nx (PX p b))=nx (PX p (!s_LetterOkg7 p)):=by
 rw [show s_LetterOks7 17 p (nx (PX p b))=(bif hasB (lettersS (gd p 0).int).str 114 then s_LetterOks6 17 p (nx (PX p b)) else nd (leI (((lettersS (gd p 0).int).str.length:Int)) 100) (s_LetterOks5 17 p (nx (PX p b)))) from by kernel_rfl,s_LetterOkx6,s_LetterOkx5,letters_len,nd_true]
 unfold s_LetterOkg7
 cases hasB (lettersS (gd p 0).int).str 114 <;> rfl
def s_LetterOkg8 (p:List D):Bool:=hasB (lettersS (gd p 0).int).str 83||(((gd p 13).rows.length:Int)==0)
theorem s_LetterOkx8 (p:List D) (b:Bool):s_LetterOks8 17 p (nx (PX p b))=nx (PX p (!s_LetterOkg8 p)):=by
 rw [show s_LetterOks8 17 p (nx (PX p b))=(bif !(hasB (lettersS (gd p 0).int).str 83) then nx (PX p (ltI 0 ((gd p 13).rows.length:Int))) else nx (PX p false)) from by kernel_rfl,lt_zero]
 unfold s_LetterOkg8
 cases hasB (lettersS (gd p 0).int).str 83 <;> cases (((gd p 13).rows.length:Int)==0) <;> rfl
def s_LetterOkg9 (p:List D):Bool:=sharesOk (gd p 13)&&s_LetterOkg8 p
theorem s_LetterOkx9 (p:List D) (b:Bool):s_LetterOks9 17 p (nx (PX p b))=nx (PX p (!s_LetterOkg9 p)):=by
 rw [show s_LetterOks9 17 p (nx (PX p b))=(bif !(sharesOk (gd p 13)) then nx (PX p true) else nd (leI (((lettersS (gd p 0).int).str.length:Int)) 100) (s_LetterOks8 17 p (nx (PX p b)))) from by kernel_rfl,s_LetterOkx8,letters_len,nd_true]
 exact nx_and p _ _
def s_LetterOkg11 (p:List D):Bool:=(hasB (lettersS (gd p 0).int).str 67||(((gd p 12).rows.length:Int)==0))&&s_LetterOkg9 p
theorem s_LetterOkx11 (p:List D) (b:Bool):s_LetterOks11 17 p (nx (PX p b))=nx (PX p (!s_LetterOkg11 p)):=by
 rw [show s_LetterOks11 17 p (nx (PX p b))=(nd (leI (((lettersS (gd p 0).int).str.length:Int)) 100) (bif !(hasB (lettersS (gd p 0).int).str 67) then (bif ltI 0 ((gd p 12).rows.length:Int) then nx (PX p true) else s_LetterOks9 17 p (nx (PX p b))) else s_LetterOks9 17 p (nx (PX p b)))) from by kernel_rfl,s_LetterOkx9,letters_len,nd_true]
 exact nx_or p _ _ _
def s_LetterOkg12 (p:List D):Bool:=storeOk (gd p 12)&&s_LetterOkg11 p
theorem s_LetterOkx12 (p:List D) (b:Bool):s_LetterOks12 17 p (nx (PX p b))=nx (PX p (!s_LetterOkg12 p)):=by
 rw [show s_LetterOks12 17 p (nx (PX p b))=(bif !(storeOk (gd p 12)) then nx (PX p true) else s_LetterOks11 17 p (nx (PX p b))) from by kernel_rfl,s_LetterOkx11]
 exact nx_and p _ _
def s_LetterOkg14 (p:List D):Bool:=(hasB (lettersS (gd p 0).int).str 87||(((gd p 11).rows.length:Int)==0))&&s_LetterOkg12 p
theorem s_LetterOkx14 (p:List D) (b:Bool):s_LetterOks14 17 p (nx (PX p b))=nx (PX p (!s_LetterOkg14 p)):=by
 rw [show s_LetterOks14 17 p (nx (PX p b))=(nd (leI (((lettersS (gd p 0).int).str.length:Int)) 100) (bif !(hasB (lettersS (gd p 0).int).str 87) then (bif ltI 0 ((gd p 11).rows.length:Int) then nx (PX p true) else s_LetterOks12 17 p (nx (PX p b))) else s_LetterOks12 17 p (nx (PX p b)))) from by kernel_rfl,s_LetterOkx12,letters_len,nd_true]
 exact nx_or p _ _ _
def s_LetterOkg15 (p:List D):Bool:=writesOk (gd p 11)&&s_LetterOkg14 p
theorem s_LetterOkx15 (p:List D) (b:Bool):s_LetterOks15 17 p (nx (PX p b))=nx (PX p (!s_LetterOkg15 p)):=by
 rw [show s_LetterOks15 17 p (nx (PX p b))=(bif !(writesOk (gd p 11)) then nx (PX p true) else s_LetterOks14 17 p (nx (PX p b))) from by kernel_rfl,s_LetterOkx14]
 exact nx_and p _ _
def s_LetterOkg17 (p:List D):Bool:=(hasB (lettersS (gd p 0).int).str 82||(((gd p 10).rows.length:Int)==0))&&s_LetterOkg15 p
theorem s_LetterOkx17 (p:List D) (b:Bool):s_LetterOks17 17 p (nx (PX p b))=nx (PX p (!s_LetterOkg17 p)):=by
 rw [show s_LetterOks17 17 p (nx (PX p b))=(nd (leI (((lettersS (gd p 0).int).str.length:Int)) 100) (bif !(hasB (lettersS (gd p 0).int).str 82) then (bif ltI 0 ((gd p 10).rows.length:Int) then nx (PX p true) else s_LetterOks15 17 p (nx (PX p b))) else s_LetterOks15 17 p (nx (PX p b)))) from by kernel_rfl,s_LetterOkx15,letters_len,nd_true]
 exact nx_or p _ _ _
def s_LetterOkg18 (p:List D):Bool:=decide (((gd p 10).rows.length:Int)≤16)&&s_LetterOkg17 p
theorem s_LetterOkx18 (p:List D) (b:Bool):s_LetterOks18 17 p (nx (PX p b))=nx (PX p (!s_LetterOkg18 p)):=by
 rw [show s_LetterOks18 17 p (nx (PX p b))=(bif ltI 16 ((gd p 10).rows.length:Int) then nx (PX p true) else s_LetterOks17 17 p (nx (PX p b))) from by kernel_rfl,s_LetterOkx17,lt_16]
 exact nx_and p _ _
theorem s_LetterOkx20 (p:List D) (b:Bool) (h:decide (((gd p 10).rows.length:Int)≤16)=true):s_LetterOks20 17 p (nx (PX p b))=ob (((List.range (gd p 10).rows.length).all fun m=>rangeOk (sub ((gd p 10).rows.getD m []) 0 2))&&((votesN (gd p 13) 0:Int)==((gd p 13).rows.length:Int))):=by
 have h16:(gd p 10).rows.length≤16:=by have:=of_decide_eq_true h; omega
 have e:=for_loop (L:=s_LetterOkL0 17 p) (fun k => [gd p 0,gd p 1,gd p 2,gd p 3,gd p 4,gd p 5,gd p 6,gd p 7,gd p 8,gd p 9,gd p 10,gd p 11,gd p 12,gd p 13,.i 0,.b false,lettersS (gd p 0).int,.i (k:Int),gd p 0,gd p 1,gd p 2,gd p 3,gd p 4,gd p 5,gd p 6,gd p 7,gd p 8,gd p 9,gd p 10,gd p 11,gd p 12,gd p 13]) (gd p 10).rows.length (fun m=>rangeOk (sub ((gd p 10).rows.getD m []) 0 2)) [.b false] 0 (fun k hk=>?_) ?_ (N:=17) (by omega)
 ·simp only [Int.natCast_zero] at e
  rw [show s_LetterOks20 17 p (nx (PX p b))=nd (iter (s_LetterOkL0 17 p) 17 [gd p 0,gd p 1,gd p 2,gd p 3,gd p 4,gd p 5,gd p 6,gd p 7,gd p 8,gd p 9,gd p 10,gd p 11,gd p 12,gd p 13,.i 0,.b false,lettersS (gd p 0).int,.i 0,gd p 0,gd p 1,gd p 2,gd p 3,gd p 4,gd p 5,gd p 6,gd p 7,gd p 8,gd p 9,gd p 10,gd p 11,gd p 12,gd p 13]).isSome (s_LetterOks19 17 p (iter (s_LetterOkL0 17 p) 17 [gd p 0,gd p 1,gd p 2,gd p 3,gd p 4,gd p 5,gd p 6,gd p 7,gd p 8,gd p 9,gd p 10,gd p 11,gd p 12,gd p 13,.i 0,.b false,lettersS (gd p 0).int,.i 0,gd p 0,gd p 1,gd p 2,gd p 3,gd p 4,gd p 5,gd p 6,gd p 7,gd p 8,gd p 9,gd p 10,gd p 11,gd p 12,gd p 13])) from by kernel_rfl,e]
  cases (List.range (gd p 10).rows.length).all fun m=>rangeOk (sub ((gd p 10).rows.getD m []) 0 2) <;> rfl
 ·show s_LetterOkL0 _ p [_,_,_,_,_,_,_,_,_,_,_,_,_,_,_,_,_,.i (k:Int),_,_,_,_,_,_,_,_,_,_,_,_,_,_]=_
  rw [s_LetterOkR0]
  simp only [int_i,c_lt hk,nd_ix hk,w64_succ hk (show (gd p 10).rows.length≤9223372036854775807 from by omega),Int.toNat_natCast]
  cases rangeOk (sub ((gd p 10).rows.getD k []) 0 2) <;> rfl
 ·show s_LetterOkL0 _ p [_,_,_,_,_,_,_,_,_,_,_,_,_,_,_,_,_,.i ((gd p 10).rows.length:Int),_,_,_,_,_,_,_,_,_,_,_,_,_,_]=_
  rw [s_LetterOkR0]
  simp only [int_i,c_nlt]
def s_LetterOkg21 (p:List D):Bool:=s_LetterOkg18 p&&(((List.range (gd p 10).rows.length).all fun m=>rangeOk (sub ((gd p 10).rows.getD m []) 0 2))&&((votesN (gd p 13) 0:Int)==((gd p 13).rows.length:Int)))
theorem s_LetterOkx21 (p:List D) (b:Bool):s_LetterOks21 17 p (nx (PX p b))=ob (s_LetterOkg21 p):=by
 rw [show s_LetterOks21 17 p (nx (PX p b))=nd (s_LetterOks18 17 p (nx (PX p b))).isSome (bif (gd (Out.pay (s_LetterOks18 17 p (nx (PX p b)))) 17).bool then ob false else s_LetterOks20 17 p (s_LetterOks18 17 p (nx (PX p b)))) from by kernel_rfl,s_LetterOkx18]
 show (bif !s_LetterOkg18 p then ob false else s_LetterOks20 17 p (nx (PX p (!s_LetterOkg18 p))))=_
 unfold s_LetterOkg21 s_LetterOkg18
 cases h:decide (((gd p 10).rows.length:Int)≤16)
 ·rfl
 ·rw [s_LetterOkx20 p _ h,Bool.true_and]
  exact ob_and _ _
def s_LetterOkg22 (p:List D):Bool:=s_LetterOkg7 p&&s_LetterOkg21 p
theorem s_LetterOkx22 (p:List D) (b:Bool):s_LetterOks22 17 p (nx (PX p b))=ob (s_LetterOkg22 p):=by
 rw [show s_LetterOks22 17 p (nx (PX p b))=nd (nd (leI (((lettersS (gd p 0).int).str.length:Int)) 100) (s_LetterOks7 17 p (nx (PX p b)))).isSome (bif (gd (Out.pay (nd (leI (((lettersS (gd p 0).int).str.length:Int)) 100) (s_LetterOks7 17 p (nx (PX p b))))) 17).bool then ob false else s_LetterOks21 17 p (nd (leI (((lettersS (gd p 0).int).str.length:Int)) 100) (s_LetterOks7 17 p (nx (PX p b))))) from by kernel_rfl,letters_len,nd_true,s_LetterOkx7]
 show (bif !s_LetterOkg7 p then ob false else s_LetterOks21 17 p (nx (PX p (!s_LetterOkg7 p))))=_
 rw [s_LetterOkx21]
 exact ob_and _ _
def s_LetterOkg23 (p:List D):Bool:=s_LetterOkg3 p&&s_LetterOkg22 p
theorem s_LetterOkx23 (p:List D):s_LetterOks23 17 p=ob (s_LetterOkg23 p):=by
 rw [show s_LetterOks23 17 p=nd (nd (leI (((lettersS (gd p 0).int).str.length:Int)) 100) (s_LetterOks3 17 p)).isSome (bif (gd (Out.pay (nd (leI (((lettersS (gd p 0).int).str.length:Int)) 100) (s_LetterOks3 17 p))) 17).bool then ob false else s_LetterOks22 17 p (nd (leI (((lettersS (gd p 0).int).str.length:Int)) 100) (s_LetterOks3 17 p))) from by kernel_rfl,letters_len,nd_true,s_LetterOkx3]
 show (bif !s_LetterOkg3 p then ob false else s_LetterOks22 17 p (nx (PX p (!s_LetterOkg3 p))))=_
 rw [s_LetterOkx22]
 exact ob_and _ _
def s_LetterOkg24 (p:List D):Bool:=numOk (hasB (lettersS (gd p 0).int).str 116) (gd p 4).int 1 60&&s_LetterOkg23 p
theorem s_LetterOkx24 (p:List D):s_LetterOks24 17 p=ob (s_LetterOkg24 p):=by
 rw [show s_LetterOks24 17 p=(bif !(numOk (hasB (lettersS (gd p 0).int).str 116) (gd p 4).int 1 60) then ob false else s_LetterOks23 17 p) from rfl,s_LetterOkx23]
 exact ob_and _ _
def s_LetterOkg25 (p:List D):Bool:=numOk (hasB (lettersS (gd p 0).int).str 113) (gd p 3).int 1 1000000000&&s_LetterOkg24 p
theorem s_LetterOkx25 (p:List D):s_LetterOks25 17 p=ob (s_LetterOkg25 p):=by
 rw [show s_LetterOks25 17 p=(bif !(numOk (hasB (lettersS (gd p 0).int).str 113) (gd p 3).int 1 1000000000) then ob false else nd (leI (((lettersS (gd p 0).int).str.length:Int)) 100) (s_LetterOks24 17 p)) from rfl,s_LetterOkx24,letters_len,nd_true]
 exact ob_and _ _
def s_LetterOkg26 (p:List D):Bool:=numOk (hasB (lettersS (gd p 0).int).str 99) (gd p 2).int 0 5&&s_LetterOkg25 p
theorem s_LetterOkx26 (p:List D):s_LetterOks26 17 p=ob (s_LetterOkg26 p):=by
 rw [show s_LetterOks26 17 p=(bif !(numOk (hasB (lettersS (gd p 0).int).str 99) (gd p 2).int 0 5) then ob false else nd (leI (((lettersS (gd p 0).int).str.length:Int)) 100) (s_LetterOks25 17 p)) from rfl,s_LetterOkx25,letters_len,nd_true]
 exact ob_and _ _
def s_LetterOkg27 (p:List D):Bool:=numOk (hasB (lettersS (gd p 0).int).str 103) (gd p 1).int 0 3&&s_LetterOkg26 p
theorem s_LetterOkx27 (p:List D):s_LetterOks27 17 p=ob (s_LetterOkg27 p):=by
 rw [show s_LetterOks27 17 p=(bif !(numOk (hasB (lettersS (gd p 0).int).str 103) (gd p 1).int 0 3) then ob false else nd (leI (((lettersS (gd p 0).int).str.length:Int)) 100) (s_LetterOks26 17 p)) from rfl,s_LetterOkx26,letters_len,nd_true]
 exact ob_and _ _
def s_LetterOkg28 (p:List D):Bool:= !((lettersS (gd p 0).int).str == [])&&s_LetterOkg27 p
theorem s_LetterOkx28 (p:List D):s_LetterOks28 17 p=ob (s_LetterOkg28 p):=by
 rw [show s_LetterOks28 17 p=(bif (lettersS (gd p 0).int).str == [] then ob false else nd (leI (((lettersS (gd p 0).int).str.length:Int)) 100) (s_LetterOks27 17 p)) from rfl,s_LetterOkx27,letters_len,nd_true]
 unfold s_LetterOkg28
 cases (lettersS (gd p 0).int).str == [] <;> rfl
theorem s_LetterOk_all (p:List D):s_LetterOkg28 p=letterG p (formI (gd p 0).int):=by
 obtain ⟨e0,e1,e2,e3,e4,e5,e6,e7,e8,e9,e10,e11,e12⟩:=letters_same (gd p 0).int
 unfold letterG s_LetterOkg28 s_LetterOkg27 s_LetterOkg26 s_LetterOkg25 s_LetterOkg24 s_LetterOkg23 s_LetterOkg22 s_LetterOkg21 s_LetterOkg18 s_LetterOkg17 s_LetterOkg15 s_LetterOkg14 s_LetterOkg12 s_LetterOkg11 s_LetterOkg9 s_LetterOkg8 s_LetterOkg7 s_LetterOkg6 s_LetterOkg5 s_LetterOkg3 s_LetterOkg2 s_LetterOkg1
 simp only [e0,e1,e2,e3,e4,e5,e6,e7,e8,e9,e10,e11,e12]
 rw [show (bif hasB (formI (gd p 0).int) 107 then rangeOk [gd p 5,gd p 6]&&(hasB (formI (gd p 0).int) 107||((gd p 5).int==0)&&((gd p 6).int==0)) else hasB (formI (gd p 0).int) 107||((gd p 5).int==0)&&((gd p 6).int==0))=(bif hasB (formI (gd p 0).int) 107 then rangeOk [gd p 5,gd p 6] else ((gd p 5).int==0)&&((gd p 6).int==0)) from by
  cases hasB (formI (gd p 0).int) 107
  ·rfl
  ·simp only [cond_true,Bool.true_or,Bool.and_true]]
 simp only [Bool.and_assoc]
def s_LetterOkE:Ent:=(49,e1 (ag rILetter) fun p=>(⟨rb,[.b (letterOk p)]⟩,true))
theorem s_LetterOk_ok:EntOk Tryz.prog s_LetterOkE:=e1_ok fun p h=>evFn_sound (N:=17) (ks:=s_LetterOkK) (key:=bo) s_LetterOkT_ok (enters Tryz.func49) Tryz.func49 fun hw=>by
 rw [s_LetterOk_ev]
 exact congrArg (fun x=>some (bo,x)) ((s_LetterOkx28 p).trans (congrArg ob ((s_LetterOk_all p).trans (letter_same p (formI (gd p 0).int)))))
end Go.Proofs.YtecefnhhlaolmaaGreat
namespace Go.Proofs.YtecefnhhlaolmaaGreat
set_option maxRecDepth 4096
set_option maxHeartbeats 1000000
abbrev i_cellFor_1T:FuncId→List T→Option (T × Bool):=find []
theorem i_cellFor_1T_ok:CallOk Tryz.prog i_cellFor_1T:=find_ok (fN)
abbrev i_cellFor_1K:List Nat:= [0,1,2,4]
theorem i_cellFor_1_ev (N:Nat) (p q:List D):evFn Tryz.prog i_cellFor_1T N i_cellFor_1K Tryz.f247 ri [⟨ag rICell,p⟩,⟨ri,q⟩]=some (bo,
 oi (w64 ((gd p 0).int - (gd q 0).int))):=by kernel_rfl
def i_cellFor_1E:Ent:=(247,e2 (ag rICell) ri fun p q=>(⟨ri,[.i (w64 ((gd p 0).int - (gd q 0).int))]⟩,true))
theorem i_cellFor_1_ok:EntOk Tryz.prog i_cellFor_1E:=e2_ok fun p q h=>evFn_sound (N:=0) (ks:=i_cellFor_1K) (key:=bo) i_cellFor_1T_ok (enters Tryz.func247) Tryz.func247 fun hw=>by
 rw [i_cellFor_1_ev]
 skip
abbrev bsCT:FuncId→List T→Option (T × Bool):=find [i_cellFor_1E]
theorem bsCT_ok:CallOk Tryz.prog bsCT:=find_ok (fC ⟨i_cellFor_1_ok,fN⟩)
abbrev bsCK:List Nat:= [0,1,2,6,7,8,9,10,11,17,31]
noncomputable def bsCL0 (N:Nat) (p q r:List D):List D→Out:=loopOf Tryz.prog bsCT N bsCK Tryz.f246 (.tup [.c (.d si),.c (.d (.bool))]) [⟨sd (.sl 131),p⟩,⟨ri,q⟩,⟨.one (.c (.fn 247 [])),r⟩] 0
theorem bsCR0 (N:Nat) (p q r:List D) (x0 x1 x2 x3 x4 x5 x6 x7:D):(bsCL0 N p q r) [x0,x1,x2,x3,x4,x5,x6,x7] =
 bif ltI x6.int x7.int then nd (leI 0 1) (nd (inRange (w64 ((IntKind.u64.wrap (w64 (x6.int+x7.int))).fdiv (2 ^ (min 1 64)))) x0.rows.length) (bif ltI (w64 ((gd (x0.rows.getD (w64 ((IntKind.u64.wrap (w64 (x6.int+x7.int))).fdiv (2 ^ (min 1 64)))).toNat []) 0).int - x1.int)) 0 then nx [x0,x1,x2,x3,x4,x5,.i (w64 ((w64 ((IntKind.u64.wrap (w64 (x6.int+x7.int))).fdiv (2 ^ (min 1 64))))+1)),x7]
 else nx [x0,x1,x2,x3,x4,x5,x6,.i (w64 ((IntKind.u64.wrap (w64 (x6.int+x7.int))).fdiv (2 ^ (min 1 64))))]))
 else ex 0 [x0,x1,x2,x3,x4,x5,x6,x7]:=by kernel_rfl
noncomputable def bsCs0 (N:Nat) (p q r:List D):Out:=let o0:=iter (bsCL0 N p q r) N [gd p 0,gd q 0,gd r 0,.i 0,.i 0,.i ((gd p 0).rows.length:Int),.i 0,.i ((gd p 0).rows.length:Int)]; nd o0.isSome (nd (o0.code==2) (bif ltI (gd o0.pay 6).int (gd o0.pay 5).int then nd (inRange (gd o0.pay 6).int (gd o0.pay 0).rows.length) (some (1,[gd o0.pay 6,.b ((w64 ((gd ((gd o0.pay 0).rows.getD (gd o0.pay 6).int.toNat []) 0).int - (gd o0.pay 1).int))==0)])) else some (1,[gd o0.pay 6,.b false])))
theorem bsC_ev (N:Nat) (p q r:List D):evFn Tryz.prog bsCT N bsCK Tryz.f246 (.tup [.c (.d si),.c (.d (.bool))]) [⟨sd (.sl 131),p⟩,⟨ri,q⟩,⟨.one (.c (.fn 247 [])),r⟩]=some (bo,(bsCs0 N p q r)):=by kernel_rfl
def keyAt (z:D) (k:Nat):Int:=(gd (z.rows.getD k []) 0).int
def lowN (z:D) (t:Int):Nat:=cnt (fun k=>ltI (keyAt z k) t) 0 z.rows.length
def bsB (z:D) (t:Int):Bool:=ltI (lowN z t:Int) (z.rows.length:Int)&&(keyAt z (lowN z t)==t)
theorem cnt_add (C:Nat→Bool):∀ b k a,cnt C k (a+b)=cnt C k a+cnt C (k+a) b
 | 0,k,a=>rfl
 | b+1,k,a=>by
  rw [← Nat.add_assoc,cnt_succ,cnt_succ,cnt_add C b k a,Nat.add_assoc,Nat.add_assoc]
theorem cnt_yes {C:Nat→Bool}:∀ m k,(∀ j,j<m→C (k+j)=true)→cnt C k m=m
 | 0,_,_=>rfl
 | m+1,k,h=>by rw [cnt_succ,cnt_yes m k (fun j hj=>h j (by omega)),h m (by omega)]; rfl
theorem cnt_no {C:Nat→Bool}:∀ m k,(∀ j,j<m→C (k+j)=false)→cnt C k m=0
 | 0,_,_=>rfl
 | m+1,k,h=>by rw [cnt_succ,cnt_no m k (fun j hj=>h j (by omega)),h m (by omega)]; rfl
theorem lowN_eq {z:D} {t:Int} {i:Nat} (hi:i≤z.rows.length) (h1:∀ k,k<i→keyAt z k<t) (h2:∀ k,i≤k→k<z.rows.length→t≤keyAt z k):lowN z t=i:=by
 unfold lowN
 obtain ⟨m,hm⟩:∃ m,z.rows.length=i+m:=⟨z.rows.length - i,by omega⟩
 rw [hm,cnt_add,cnt_yes i 0 (fun j hj=>by rw [Nat.zero_add]; exact ltI_t (h1 j hj)),cnt_no m (0+i) (fun j hj=>by rw [Nat.zero_add]; exact ltI_f (h2 (i+j) (by omega) (by omega)))]
 omega
structure Sorted (z:D):Prop where
 len:z.rows.length≤60
 key:∀ k,k<z.rows.length→0≤keyAt z k∧keyAt z k≤999
 lt:∀ i j,i<j→j<z.rows.length→keyAt z i<keyAt z j
theorem store_sorted {z:D} (h:storeOk z=true):Sorted z:=by
 simp only [storeOk,Bool.and_eq_true,List.all_eq_true,List.mem_range,leI,decide_eq_true_eq] at h
 obtain ⟨h,hl⟩:=h
 refine ⟨by omega,fun k hk=>?_,fun i j hij hj=>?_⟩
 ·have:=h k hk
  cases k with
  | zero=>simp only [storeAt,Bool.and_eq_true,inB,decide_eq_true_eq] at this; exact ⟨this.1.1,this.1.2⟩
  | succ k=>simp only [storeAt,Bool.and_eq_true,inB,decide_eq_true_eq] at this; exact ⟨this.1.1,this.1.2⟩
 ·obtain ⟨d,rfl⟩:∃ d,j=i+d+1:=⟨j - i - 1,by omega⟩
  have hs:∀ k,k+1<z.rows.length→keyAt z k<keyAt z (k+1):=fun k hk=>by
   have:=h (k+1) hk
   simp only [storeAt,Bool.and_eq_true,leI,Bool.not_eq_true',decide_eq_false_iff_not] at this
   unfold keyAt
   omega
  clear hij
  induction d with
  | zero=>exact hs i hj
  | succ d ih=>exact Int.lt_trans (ih (by omega)) (hs (i+d+1) hj)
theorem u64_id {x:Int} (h:0≤x) (h':x≤9223372036854775807):IntKind.u64.wrap x=x:=by
 simp only [IntKind.wrap,IntKind.signed,IntKind.bits]
 simp
 omega
theorem half {i j:Nat} (h:i+j≤1000):w64 ((IntKind.u64.wrap (w64 ((i:Int)+(j:Int)))).fdiv (2 ^ (min 1 64)))=(((i+j) / 2:Nat):Int):=by
 rw [w64_id (x:=(i:Int)+j) (by omega) (by omega),u64_id (by omega) (by omega),show ((2:Int) ^ (min 1 64))=((2:Nat):Int) from rfl,show ((i:Int)+(j:Int))=((i+j:Nat):Int) from by omega,← Int.ofNat_fdiv,w64_id (by omega) (by omega)]
theorem bs_loop (p q r:List D) (N:Nat) (hz:Sorted (gd p 0)) (ht:inB (gd q 0).int 0 999=true):∀ (d i j M:Nat),j=i+d→j≤(gd p 0).rows.length→d<M→(∀ k,k<i→keyAt (gd p 0) k<(gd q 0).int)→(∀ k,j≤k→k<(gd p 0).rows.length→(gd q 0).int≤keyAt (gd p 0) k) →
  iter (bsCL0 N p q r) M [gd p 0,gd q 0,gd r 0,.i 0,.i 0,.i ((gd p 0).rows.length:Int),.i (i:Int),.i (j:Int)]=some (2,[gd p 0,gd q 0,gd r 0,.i 0,.i 0,.i ((gd p 0).rows.length:Int),.i (lowN (gd p 0) (gd q 0).int:Int),.i (lowN (gd p 0) (gd q 0).int:Int)]):=by
 intro d
 induction d using Nat.strongRecOn with
 | _ d ih =>
 intro i j M hj hn hM h1 h2
 have hlen:=hz.len
 simp only [inB,Bool.and_eq_true,decide_eq_true_eq] at ht
 obtain ⟨M,rfl⟩:∃ M',M=M'+1:=⟨M - 1,by omega⟩
 rw [iter,bsCR0]
 simp only [int_i]
 by_cases hd:d=0
 ·subst hd
  obtain rfl:j=i:=by omega
  rw [c_nlt,lowN_eq hn h1 h2]
  rfl
 ·rw [c_lt (show i<j from by omega)]
  have hh:(i+j) / 2<(gd p 0).rows.length:=by omega
  simp only [half (show i+j≤1000 from by omega),nd_ix hh,Int.toNat_natCast,show leI 0 1=true from rfl,nd_true]
  have hk:=hz.key _ hh
  rw [show (gd ((gd p 0).rows.getD ((i+j) / 2) []) 0).int=keyAt (gd p 0) ((i+j) / 2) from rfl,w64_id (x:=keyAt (gd p 0) ((i+j) / 2) - (gd q 0).int) (by omega) (by omega)]
  by_cases hc:keyAt (gd p 0) ((i+j) / 2)<(gd q 0).int
  ·rw [ltI_t (show keyAt (gd p 0) ((i+j) / 2) - (gd q 0).int<0 from by omega),cond_true]
   simp only [w64_succ hh (show (gd p 0).rows.length≤9223372036854775807 from by omega)]
   exact ih (j - ((i+j) / 2+1)) (by omega) ((i+j) / 2+1) j M (by omega) hn (by omega) (fun k hk'=>by
    rcases Nat.lt_or_ge k ((i+j) / 2) with h | h
    ·have:=hz.lt k _ h hh; omega
    ·obtain rfl:k=(i+j) / 2:=by omega
     exact hc) h2
  ·rw [ltI_f (show 0≤keyAt (gd p 0) ((i+j) / 2) - (gd q 0).int from by omega),cond_false]
   exact ih ((i+j) / 2 - i) (by omega) i ((i+j) / 2) M (by omega) (by omega) (by omega) h1 (fun k hk1 hk2=>by
    rcases Nat.lt_or_ge ((i+j) / 2) k with h | h
    ·have:=hz.lt _ k h hk2; omega
    ·obtain rfl:k=(i+j) / 2:=by omega
     omega)
def bsCE:Ent:=(246,e3 (sd (.sl 131)) ri (.one (.c (.fn 247 []))) fun p q r=>(⟨.tup [.c (.d si),.c (.d (.bool))],[.i (lowN (gd p 0) (gd q 0).int:Int),.b (bsB (gd p 0) (gd q 0).int)]⟩,storeOk (gd p 0)&&inB (gd q 0).int 0 999))
theorem bsC_ok:EntOk Tryz.prog bsCE:=e3_ok fun p q r h=>evFn_sound (N:=61) (ks:=bsCK) (key:=bo) bsCT_ok (enters Tryz.func246) Tryz.func246 fun hw=>by
 rw [bsC_ev]
 have h:(storeOk (gd p 0)&&inB (gd q 0).int 0 999)=true:=h
 simp only [Bool.and_eq_true] at h
 have hz:=store_sorted h.1
 have hlen:=hz.len
 have e:=bs_loop p q r 61 hz h.2 (gd p 0).rows.length 0 (gd p 0).rows.length 61 (by omega) (Nat.le_refl _) (by omega) (fun k hk=>absurd hk (Nat.not_lt_zero _)) (fun k h1 h2=>absurd h2 (by omega))
 simp only [Int.natCast_zero] at e
 unfold bsCs0
 rw [e]
 simp only [nd,cond_true,cond_false,Option.isSome_some,Out.code,Out.pay,Option.getD_some,gd_cons_zero,gd_cons_succ,Nat.reduceBEq,Nat.reduceAdd,int_i,bool_b,str_s,rows_l,Bool.not_true,Bool.not_false,beq_self_eq_true]
 unfold bsB
 have ht:=h.2
 simp only [inB,Bool.and_eq_true,decide_eq_true_eq] at ht
 by_cases hb:lowN (gd p 0) (gd q 0).int<(gd p 0).rows.length
 ·have hk:=hz.key _ hb
  rw [ltI_nat hb,inRange_nat hb,Int.toNat_natCast,show (gd ((gd p 0).rows.getD (lowN (gd p 0) (gd q 0).int) []) 0).int=keyAt (gd p 0) (lowN (gd p 0) (gd q 0).int) from rfl,w64_id (x:=keyAt (gd p 0) (lowN (gd p 0) (gd q 0).int) - (gd q 0).int) (by omega) (by omega)]
  rw [show (keyAt (gd p 0) (lowN (gd p 0) (gd q 0).int) - (gd q 0).int==0)=(keyAt (gd p 0) (lowN (gd p 0) (gd q 0).int)==(gd q 0).int) from by
   rw [Bool.eq_iff_iff]; simp only [beq_iff_eq]; omega]
  rfl
 ·rw [ltI_f (show ((gd p 0).rows.length:Int)≤(lowN (gd p 0) (gd q 0).int:Int) from by omega)]
  rfl
abbrev i_cellForT:FuncId→List T→Option (T × Bool):=find [bsCE]
theorem i_cellForT_ok:CallOk Tryz.prog i_cellForT:=find_ok (fC ⟨bsC_ok,fN⟩)
abbrev i_cellForK:List Nat:= [0,1,4,5]
theorem i_cellFor_ev (N:Nat) (p q:List D):evFn Tryz.prog i_cellForT N i_cellForK Tryz.f244 (.tup [.c (.d si),.c (.d (.bool))]) [⟨sd (.sl 131),p⟩,⟨ri,q⟩]=some (bo,
 nd (storeOk (gd p 0)&&inB (gd q 0).int 0 999) (some (1,[.i (lowN (gd p 0) (gd q 0).int:Int),.b (bsB (gd p 0) (gd q 0).int)]))):=by kernel_rfl
def i_cellForE:Ent:=(244,e2 (sd (.sl 131)) ri fun p q=>(⟨.tup [.c (.d si),.c (.d (.bool))],[.i (lowN (gd p 0) (gd q 0).int:Int),.b (bsB (gd p 0) (gd q 0).int)]⟩,storeOk (gd p 0)&&inB (gd q 0).int 0 999))
theorem i_cellFor_ok:EntOk Tryz.prog i_cellForE:=e2_ok fun p q h=>evFn_sound (N:=0) (ks:=i_cellForK) (key:=bo) i_cellForT_ok (enters Tryz.func244) Tryz.func244 fun hw=>by
 rw [i_cellFor_ev]
 have h:(storeOk (gd p 0)&&inB (gd q 0).int 0 999)=true:=h
 rw [h,nd_true]
abbrev i_valueOfT:FuncId→List T→Option (T × Bool):=find [i_cellForE]
theorem i_valueOfT_ok:CallOk Tryz.prog i_valueOfT:=find_ok (fC ⟨i_cellFor_ok,fN⟩)
abbrev i_valueOfK:List Nat:= [0,1,4,5,6,14]
theorem i_valueOf_ev (N:Nat) (p q:List D):evFn Tryz.prog i_valueOfT N i_valueOfK Tryz.f234 ri [⟨sd (.sl 131),p⟩,⟨ri,q⟩]=some (bo,
 nd (storeOk (gd p 0)&&inB (gd q 0).int 0 999) (bif !(bsB (gd p 0) (gd q 0).int) then oi (-1)
 else nd (inRange (lowN (gd p 0) (gd q 0).int:Int) (gd p 0).rows.length) (some (1,[gd ((gd p 0).rows.getD (lowN (gd p 0) (gd q 0).int:Int).toNat []) 1])))):=by kernel_rfl
def valD (z:D) (t:Int):D:=bif bsB z t then gd (z.rows.getD (lowN z t) []) 1 else .i (-1)
def i_valueOfE:Ent:=(234,e2 (sd (.sl 131)) ri fun p q=>(⟨ri,[valD (gd p 0) (gd q 0).int]⟩,storeOk (gd p 0)&&inB (gd q 0).int 0 999))
theorem i_valueOf_ok:EntOk Tryz.prog i_valueOfE:=e2_ok fun p q h=>evFn_sound (N:=0) (ks:=i_valueOfK) (key:=bo) i_valueOfT_ok (enters Tryz.func234) Tryz.func234 fun hw=>by
 rw [i_valueOf_ev]
 have h:(storeOk (gd p 0)&&inB (gd q 0).int 0 999)=true:=h
 rw [h,nd_true]
 unfold valD
 cases hb:bsB (gd p 0) (gd q 0).int
 ·rfl
 ·have hb':=hb
  simp only [bsB,Bool.and_eq_true,ltI,decide_eq_true_eq] at hb'
  rw [inRange_nat (show lowN (gd p 0) (gd q 0).int<(gd p 0).rows.length from by omega)]
  rfl
abbrev s_l11GetT:FuncId→List T→Option (T × Bool):=find []
theorem s_l11GetT_ok:CallOk Tryz.prog s_l11GetT:=find_ok (fN)
abbrev s_l11GetK:List Nat:= [0,1,4,5,9,18]
noncomputable def s_l11GetL0 (N:Nat) (p q:List D):List D→Out:=loopOf Tryz.prog s_l11GetT N s_l11GetK Tryz.f217 ri [⟨sd (.sl 131),p⟩,⟨ri,q⟩] 0
theorem s_l11GetR0 (N:Nat) (p q:List D) (x0 x1 x2 x3:D):(s_l11GetL0 N p q) [x0,x1,x2,x3] =
 bif ltI x3.int (x0.rows.length:Int) then nd (inRange x3.int x0.rows.length) (bif (gd (x0.rows.getD x3.int.toNat []) 0).int==x1.int then nd (inRange x3.int x0.rows.length) (some (1,[gd (x0.rows.getD x3.int.toNat []) 1]))
 else nx [x0,x1,x2,.i (w64 (x3.int+1))])
 else ex 0 [x0,x1,x2,x3]:=by kernel_rfl
theorem s_l11Get_ev (N:Nat) (p q:List D):evFn Tryz.prog s_l11GetT N s_l11GetK Tryz.f217 ri [⟨sd (.sl 131),p⟩,⟨ri,q⟩]=some (bo,
 (let o0:=iter (s_l11GetL0 N p q) N [gd p 0,gd q 0,.i 0,.i 0]
  nd o0.isSome (bif o0.code==1 then some (1,o0.pay)
  else nd (o0.code==2) (oi (-1))))):=by kernel_rfl
theorem scan_at {ex:Nat→Option (Nat × List D)} {o:Nat × List D}:∀ (m k i:Nat),i<m→ex (k+i)=some o→(∀ j,j<i→ex (k+j)=none)→scan ex k m=some o
 | 0,_,_,h,_,_=>absurd h (Nat.not_lt_zero _)
 | m+1,k,0,_,h,_=>by rw [scan,show ex k=some o from h]
 | m+1,k,i+1,hi,h,hn=>by
  rw [scan,show ex k=none from hn 0 (by omega)]
  exact scan_at m (k+1) i (by omega) (by rw [show k+1+i=k+(i+1) from by omega]; exact h) fun j hj=>by rw [show k+1+j=k+(j+1) from by omega]; exact hn (j+1) (by omega)
theorem scan_no {ex:Nat→Option (Nat × List D)}:∀ (m k:Nat),(∀ j,j<m→ex (k+j)=none)→scan ex k m=none
 | 0,_,_=>rfl
 | m+1,k,h=>by
  rw [scan,show ex k=none from h 0 (by omega)]
  exact scan_no m (k+1) fun j hj=>by rw [show k+1+j=k+(j+1) from by omega]; exact h (j+1) (by omega)
def s_l11GetE:Ent:=(217,e2 (sd (.sl 131)) ri fun p q=>(⟨ri,[valD (gd p 0) (gd q 0).int]⟩,storeOk (gd p 0)))
theorem s_l11Get_ok:EntOk Tryz.prog s_l11GetE:=e2_ok fun p q h=>evFn_sound (N:=61) (ks:=s_l11GetK) (key:=bo) s_l11GetT_ok (enters Tryz.func217) Tryz.func217 fun hw=>by
 rw [s_l11Get_ev]
 have h:storeOk (gd p 0)=true:=h
 have hz:=store_sorted h
 have hlen:=hz.len
 have e:=iter_scan (step:=s_l11GetL0 61 p q) (fun k => [gd p 0,gd q 0,.i 0,.i (k:Int)]) (fun k=>bif keyAt (gd p 0) k==(gd q 0).int then some (1,[gd ((gd p 0).rows.getD k []) 1]) else none) (2,[gd p 0,gd q 0,.i 0,.i ((gd p 0).rows.length:Int)]) (n:=(gd p 0).rows.length) (fun k hk=>?_) (fun k o h=>?_) ?_ (by simp) (gd p 0).rows.length 0 61 (by omega) (by omega)
 ·simp only [Int.natCast_zero] at e
  rw [e]
  unfold valD
  cases hb:bsB (gd p 0) (gd q 0).int
  ·rw [scan_no _ _ fun j hj=>?_]
   ·rfl
   ·rw [Nat.zero_add]
    cases hk:keyAt (gd p 0) j==(gd q 0).int
    ·rfl
    ·have hk:=eq_of_beq hk
     have hl:lowN (gd p 0) (gd q 0).int=j:=lowN_eq (by omega) (fun k hkj=>by have:=hz.lt k j hkj hj; omega) (fun k h1 h2=>by
      rcases Nat.lt_or_ge j k with h | h
      ·have:=hz.lt j k h h2; omega
      ·obtain rfl:k=j:=by omega
       omega)
     unfold bsB at hb
     rw [hl,ltI_nat hj,hk,beq_self_eq_true] at hb
     cases hb
  ·simp only [bsB,Bool.and_eq_true,ltI,decide_eq_true_eq] at hb
   have hlt:lowN (gd p 0) (gd q 0).int<(gd p 0).rows.length:=by omega
   rw [scan_at _ _ (lowN (gd p 0) (gd q 0).int) hlt (by rw [Nat.zero_add,hb.2]; rfl) fun j hj=>?_]
   ·rfl
   ·rw [Nat.zero_add,show (keyAt (gd p 0) j==(gd q 0).int)=false from beq_eq_false_iff_ne.2 (by
     have:=hz.lt j _ hj hlt
     have:=eq_of_beq hb.2
     omega)]
    rfl
 ·show s_l11GetL0 _ p q [_,_,_,.i (k:Int)]=_
  rw [s_l11GetR0]
  simp only [int_i,c_lt hk,nd_ix hk,w64_succ hk (show (gd p 0).rows.length≤9223372036854775807 from by omega),Int.toNat_natCast]
  rw [show (gd ((gd p 0).rows.getD k []) 0).int=keyAt (gd p 0) k from rfl]
  cases keyAt (gd p 0) k==(gd q 0).int <;> rfl
 ·cases hc:keyAt (gd p 0) k==(gd q 0).int
  ·rw [hc] at h; cases h
  ·rw [hc,cond_true] at h
   injection h with h
   rw [← h]; simp
 ·show s_l11GetL0 _ p q [_,_,_,.i ((gd p 0).rows.length:Int)]=_
  rw [s_l11GetR0]
  simp only [int_i,c_nlt]
end Go.Proofs.YtecefnhhlaolmaaGreat
namespace Go.Proofs.YtecefnhhlaolmaaGreat
set_option maxRecDepth 4096
set_option maxHeartbeats 1000000
abbrev i_clientRightT:FuncId→List T→Option (T × Bool):=find [i_ClientOkE,cofCPE,cofCSE]
theorem i_clientRightT_ok:CallOk Tryz.prog i_clientRightT:=find_ok (fC ⟨i_ClientOk_ok,fC ⟨cofCP_ok,fC ⟨cofCS_ok,fN⟩⟩⟩)
abbrev i_clientRightK:List Nat:= [0,1,2,3,4]
theorem i_clientRight_ev (N:Nat) (p q:List D):evFn Tryz.prog i_clientRightT N i_clientRightK Tryz.f64 rb [⟨ag rIClient,p⟩,⟨ri,q⟩]=some (bo,
 nd (clientSmall (sub p 0 9)) (bif clientOk (sub p 0 9) then bif ltI (gd p 7).int (gd q 0).int then bif !(anyS (fun rr=>ixfCPC (.l [[.l [[gd q 0]]]]) (sub rr 0 3)) (gd p 8)) then ob (!(anyS (fun rr=>ixfCSC (.l [[.l [[gd q 0]]]]) (sub rr 0 3)) (gd p 4)))
 else ob false
 else ob false
 else ob false)):=by kernel_rfl
def seenIn (z:D) (n:Int):Bool:=(List.range z.rows.length).all fun k => !leI n (gd (z.rows.getD k []) 0).int
def clientRight (p:List D) (n:Int):Bool:=clientOk p&&(ltI (gd p 7).int n&&(ownersIn (gd p 8) n&&seenIn (gd p 4) n))
theorem owners_any (z q:D):(!(anyS (fun rr=>ixfCPC (.l [[.l [[q]]]]) (sub rr 0 3)) z))=ownersIn z q.int:=by
 unfold anyS ownersIn
 rw [← not_any]
 rfl
theorem seen_anyIn (z q:D):(!(anyS (fun rr=>ixfCSC (.l [[.l [[q]]]]) (sub rr 0 3)) z))=seenIn z q.int:=by
 unfold anyS seenIn
 rw [← not_any]
 rfl
def i_clientRightE:Ent:=(64,e2 (ag rIClient) ri fun p q=>(⟨rb,[.b (clientRight p (gd q 0).int)]⟩,clientSmall p))
theorem i_clientRight_ok:EntOk Tryz.prog i_clientRightE:=e2_ok fun p q h=>evFn_sound (N:=0) (ks:=i_clientRightK) (key:=bo) i_clientRightT_ok (enters Tryz.func64) Tryz.func64 fun hw=>by
 rw [i_clientRight_ev]
 rw [owners_any,seen_anyIn]
 have h:clientSmall p=true:=h
 rw [show clientSmall (sub p 0 9)=clientSmall p from rfl,h,nd_true,show clientOk (sub p 0 9)=clientOk p from rfl]
 unfold clientRight
 cases clientOk p <;> cases ltI (gd p 7).int (gd q 0).int <;> cases ownersIn (gd p 8) (gd q 0).int <;> cases seenIn (gd p 4) (gd q 0).int <;> rfl
abbrev s_l16ClientsOkT:FuncId→List T→Option (T × Bool):=find [s_ClientOkE,s_l16OwnersInE]
theorem s_l16ClientsOkT_ok:CallOk Tryz.prog s_l16ClientsOkT:=find_ok (fC ⟨s_ClientOk_ok,fC ⟨s_l16OwnersIn_ok,fN⟩⟩)
abbrev s_l16ClientsOkK:List Nat:= [0,1,2,3,4,5,6,14,37,42,52]
noncomputable def s_l16ClientsOkL0 (N:Nat) (p:List D):List D→Out:=loopOf Tryz.prog s_l16ClientsOkT N s_l16ClientsOkK Tryz.f48 rb [⟨ag rITown,p⟩] 0
noncomputable def s_l16ClientsOkL2 (N:Nat) (p:List D):List D→Out:=loopOf Tryz.prog s_l16ClientsOkT N s_l16ClientsOkK Tryz.f48 rb [⟨ag rITown,p⟩] 2
theorem s_l16ClientsOkR0 (N:Nat) (p:List D) (x0 x1 x2 x3 x4 x5 x6 x7 x8 x9 x10 x11 x12 x13 x14 x15 x16 x17 x18 x19 x20 x21 x22 x23 x24 x25 x26 x27 x28 x29 x30 x31 x32 x33:D):(s_l16ClientsOkL0 N p) [x0,x1,x2,x3,x4,x5,x6,x7,x8,x9,x10,x11,x12,x13,x14,x15,x16,x17,x18,x19,x20,x21,x22,x23,x24,x25,x26,x27,x28,x29,x30,x31,x32,x33] =
 bif ltI x18.int (x31.rows.length:Int) then nd (inRange x18.int x31.rows.length) (bif !(clientOk (sub (x31.rows.getD x18.int.toNat []) 0 9)) then ob false
 else bif !(ownersIn (gd (x31.rows.getD x18.int.toNat []) 8) x17.int) then ob false
 else bif leI x17.int (gd (x31.rows.getD x18.int.toNat []) 7).int then ob false
 else (let o2:=iter (s_l16ClientsOkL2 N p) N [x0,x1,x2,x3,x4,x5,x6,x7,x8,x9,x10,x11,x12,x13,x14,x15,x16,x17,x18,.b (ltI x18.int (x31.rows.length:Int)),.i 0,.b (leI x17.int (gd (x31.rows.getD x18.int.toNat []) 7).int),.i 0,x19,x20,x21,x22,x23,x24,x25,x26,x27,x28,x29,x30,x31,x32,x33,gd (x31.rows.getD x18.int.toNat []) 0,gd (x31.rows.getD x18.int.toNat []) 1,gd (x31.rows.getD x18.int.toNat []) 2,gd (x31.rows.getD x18.int.toNat []) 3,gd (x31.rows.getD x18.int.toNat []) 4,gd (x31.rows.getD x18.int.toNat []) 5,gd (x31.rows.getD x18.int.toNat []) 6,gd (x31.rows.getD x18.int.toNat []) 7,gd (x31.rows.getD x18.int.toNat []) 8]
  nd o2.isSome (bif o2.code==1 then some (1,o2.pay)
  else nd (o2.code==4) (nx [gd o2.pay 0,gd o2.pay 1,gd o2.pay 2,gd o2.pay 3,gd o2.pay 4,gd o2.pay 5,gd o2.pay 6,gd o2.pay 7,gd o2.pay 8,gd o2.pay 9,gd o2.pay 10,gd o2.pay 11,gd o2.pay 12,gd o2.pay 13,gd o2.pay 14,gd o2.pay 15,gd o2.pay 16,gd o2.pay 17,.i (w64 ((gd o2.pay 18).int+1)),gd o2.pay 23,gd o2.pay 24,gd o2.pay 25,gd o2.pay 26,gd o2.pay 27,gd o2.pay 28,gd o2.pay 29,gd o2.pay 30,gd o2.pay 31,gd o2.pay 32,gd o2.pay 33,gd o2.pay 34,gd o2.pay 35,gd o2.pay 36,gd o2.pay 37]))))
 else ex 0 [x0,x1,x2,x3,x4,x5,x6,x7,x8,x9,x10,x11,x12,x13,x14,x15,x16,x17,x18,x19,x20,x21,x22,x23,x24,x25,x26,x27,x28,x29,x30,x31,x32,x33]:=by kernel_rfl
theorem s_l16ClientsOkR2 (N:Nat) (p:List D) (x0 x1 x2 x3 x4 x5 x6 x7 x8 x9 x10 x11 x12 x13 x14 x15 x16 x17 x18 x19 x20 x21 x22 x23 x24 x25 x26 x27 x28 x29 x30 x31 x32 x33 x34 x35 x36 x37 x38 x39 x40 x41 x42 x43 x44 x45 x46:D):(s_l16ClientsOkL2 N p) [x0,x1,x2,x3,x4,x5,x6,x7,x8,x9,x10,x11,x12,x13,x14,x15,x16,x17,x18,x19,x20,x21,x22,x23,x24,x25,x26,x27,x28,x29,x30,x31,x32,x33,x34,x35,x36,x37,x38,x39,x40,x41,x42,x43,x44,x45,x46] =
 bif ltI x22.int (x42.rows.length:Int) then nd (inRange x22.int x42.rows.length) (bif leI x17.int (gd (x42.rows.getD x22.int.toNat []) 0).int then ob false
 else nx [x0,x1,x2,x3,x4,x5,x6,x7,x8,x9,x10,x11,x12,x13,x14,x15,x16,x17,x18,x19,x20,x21,.i (w64 (x22.int+1)),x23,x24,x25,x26,x27,x28,x29,x30,x31,x32,x33,x34,x35,x36,x37,x38,x39,x40,x41,x42,x43,x44,x45,x46])
 else ex 2 [x0,x1,x2,x3,x4,x5,x6,x7,x8,x9,x10,x11,x12,x13,x14,x15,x16,x17,x18,x19,x20,x21,x22,x23,x24,x25,x26,x27,x28,x29,x30,x31,x32,x33,x34,x35,x36,x37,x38,x39,x40,x41,x42,x43,x44,x45,x46]:=by kernel_rfl
theorem s_l16ClientsOk_ev (N:Nat) (p:List D):evFn Tryz.prog s_l16ClientsOkT N s_l16ClientsOkK Tryz.f48 rb [⟨ag rITown,p⟩]=some (bo,
 (let o0:=iter (s_l16ClientsOkL0 N p) N [gd p 0,gd p 1,gd p 2,gd p 3,gd p 4,gd p 5,gd p 6,gd p 7,gd p 8,gd p 9,gd p 10,gd p 11,gd p 12,gd p 13,gd p 14,.i 0,.i 0,.i ((gd p 9).rows.length:Int),.i 0,gd p 0,gd p 1,gd p 2,gd p 3,gd p 4,gd p 5,gd p 6,gd p 7,gd p 8,gd p 9,gd p 10,gd p 11,gd p 12,gd p 13,gd p 14]
  nd o0.isSome (bif o0.code==1 then some (1,o0.pay)
  else nd (o0.code==2) (ob true)))):=by kernel_rfl
def clientsOk (z:D) (n:Int):Bool:=(List.range z.rows.length).all fun k=>clientRight (z.rows.getD k []) n
theorem leI_not (a b:Int):leI a b = !ltI b a:=by
 rw [Bool.eq_iff_iff]; simp only [leI,ltI,decide_eq_true_eq,Bool.not_eq_true',decide_eq_false_iff_not]; omega
theorem client_seen {p:List D} (h:clientOk p=true):(gd p 4).rows.length≤16:=by
 unfold clientOk at h
 simp only [Bool.and_eq_true] at h
 have h:=h.2.2.2
 cases hc:ltI (gd p 0).int 2
 ·rw [hc,cond_false] at h
  simp only [clientBusy,seenOk,Bool.and_eq_true,leI,decide_eq_true_eq] at h
  omega
 ·rw [hc,cond_true] at h
  simp only [clientIdle,Bool.and_eq_true,beq_iff_eq] at h
  omega
theorem clients_in (p:List D) (N k:Nat) (b1 b2:D) (hN:17≤N) (h:(gd ((gd p 12).rows.getD k []) 4).rows.length≤16):iter (s_l16ClientsOkL2 N p) N [gd p 0,gd p 1,gd p 2,gd p 3,gd p 4,gd p 5,gd p 6,gd p 7,gd p 8,gd p 9,gd p 10,gd p 11,gd p 12,gd p 13,gd p 14,.i 0,.i 0,.i ((gd p 9).rows.length:Int),.i (k:Int),b1,.i 0,b2,.i 0,gd p 0,gd p 1,gd p 2,gd p 3,gd p 4,gd p 5,gd p 6,gd p 7,gd p 8,gd p 9,gd p 10,gd p 11,gd p 12,gd p 13,gd p 14,gd ((gd p 12).rows.getD k []) 0,gd ((gd p 12).rows.getD k []) 1,gd ((gd p 12).rows.getD k []) 2,gd ((gd p 12).rows.getD k []) 3,gd ((gd p 12).rows.getD k []) 4,gd ((gd p 12).rows.getD k []) 5,gd ((gd p 12).rows.getD k []) 6,gd ((gd p 12).rows.getD k []) 7,gd ((gd p 12).rows.getD k []) 8]=some (bif seenIn (gd ((gd p 12).rows.getD k []) 4) ((gd p 9).rows.length:Int) then (4,[gd p 0,gd p 1,gd p 2,gd p 3,gd p 4,gd p 5,gd p 6,gd p 7,gd p 8,gd p 9,gd p 10,gd p 11,gd p 12,gd p 13,gd p 14,.i 0,.i 0,.i ((gd p 9).rows.length:Int),.i (k:Int),b1,.i 0,b2,.i ((gd ((gd p 12).rows.getD k []) 4).rows.length:Int),gd p 0,gd p 1,gd p 2,gd p 3,gd p 4,gd p 5,gd p 6,gd p 7,gd p 8,gd p 9,gd p 10,gd p 11,gd p 12,gd p 13,gd p 14,gd ((gd p 12).rows.getD k []) 0,gd ((gd p 12).rows.getD k []) 1,gd ((gd p 12).rows.getD k []) 2,gd ((gd p 12).rows.getD k []) 3,gd ((gd p 12).rows.getD k []) 4,gd ((gd p 12).rows.getD k []) 5,gd ((gd p 12).rows.getD k []) 6,gd ((gd p 12).rows.getD k []) 7,gd ((gd p 12).rows.getD k []) 8]) else (1,[.b false])):=by
 have e:=for_loop (L:=s_l16ClientsOkL2 N p) (fun j => [gd p 0,gd p 1,gd p 2,gd p 3,gd p 4,gd p 5,gd p 6,gd p 7,gd p 8,gd p 9,gd p 10,gd p 11,gd p 12,gd p 13,gd p 14,.i 0,.i 0,.i ((gd p 9).rows.length:Int),.i (k:Int),b1,.i 0,b2,.i (j:Int),gd p 0,gd p 1,gd p 2,gd p 3,gd p 4,gd p 5,gd p 6,gd p 7,gd p 8,gd p 9,gd p 10,gd p 11,gd p 12,gd p 13,gd p 14,gd ((gd p 12).rows.getD k []) 0,gd ((gd p 12).rows.getD k []) 1,gd ((gd p 12).rows.getD k []) 2,gd ((gd p 12).rows.getD k []) 3,gd ((gd p 12).rows.getD k []) 4,gd ((gd p 12).rows.getD k []) 5,gd ((gd p 12).rows.getD k []) 6,gd ((gd p 12).rows.getD k []) 7,gd ((gd p 12).rows.getD k []) 8]) (gd ((gd p 12).rows.getD k []) 4).rows.length (fun j => !leI ((gd p 9).rows.length:Int) (gd ((gd ((gd p 12).rows.getD k []) 4).rows.getD j []) 0).int) [.b false] 2 (fun j hj=>?_) ?_ (N:=N) (by omega)
 ·simp only [Int.natCast_zero] at e
  exact e
 ·show s_l16ClientsOkL2 _ p [_,_,_,_,_,_,_,_,_,_,_,_,_,_,_,_,_,_,_,_,_,_,.i (j:Int),_,_,_,_,_,_,_,_,_,_,_,_,_,_,_,_,_,_,_,_,_,_,_,_]=_
  rw [s_l16ClientsOkR2]
  simp only [int_i,c_lt hj,nd_ix hj,w64_succ hj (show (gd ((gd p 12).rows.getD k []) 4).rows.length≤9223372036854775807 from by omega),Int.toNat_natCast]
  cases leI ((gd p 9).rows.length:Int) (gd ((gd ((gd p 12).rows.getD k []) 4).rows.getD j []) 0).int <;> rfl
 ·show s_l16ClientsOkL2 _ p [_,_,_,_,_,_,_,_,_,_,_,_,_,_,_,_,_,_,_,_,_,_,.i ((gd ((gd p 12).rows.getD k []) 4).rows.length:Int),_,_,_,_,_,_,_,_,_,_,_,_,_,_,_,_,_,_,_,_,_,_,_,_]=_
  rw [s_l16ClientsOkR2]
  simp only [int_i,c_nlt]
def s_l16ClientsOkE:Ent:=(48,e1 (ag rITown) fun p=>(⟨rb,[.b (clientsOk (gd p 12) ((gd p 9).rows.length:Int))]⟩,true))
theorem s_l16ClientsOk_ok:EntOk Tryz.prog s_l16ClientsOkE:=e1_ok fun p h=>evFn_sound (N:=(gd p 12).rows.length+17) (ks:=s_l16ClientsOkK) (key:=bo) s_l16ClientsOkT_ok (enters Tryz.func48) Tryz.func48 fun hw=>by
 rw [s_l16ClientsOk_ev]
 have hl:=wt_at (hw ⟨ag rITown,p⟩ (by simp)) (j:=12) rfl
 have e:=for_loop (L:=s_l16ClientsOkL0 ((gd p 12).rows.length+17) p) (fun k => [gd p 0,gd p 1,gd p 2,gd p 3,gd p 4,gd p 5,gd p 6,gd p 7,gd p 8,gd p 9,gd p 10,gd p 11,gd p 12,gd p 13,gd p 14,.i 0,.i 0,.i ((gd p 9).rows.length:Int),.i (k:Int),gd p 0,gd p 1,gd p 2,gd p 3,gd p 4,gd p 5,gd p 6,gd p 7,gd p 8,gd p 9,gd p 10,gd p 11,gd p 12,gd p 13,gd p 14]) (gd p 12).rows.length (fun k=>clientRight ((gd p 12).rows.getD k []) ((gd p 9).rows.length:Int)) [.b false] 0 (fun k hk=>?_) ?_ (N:=(gd p 12).rows.length+17) (by omega)
 ·simp only [Int.natCast_zero] at e
  rw [e]
  unfold clientsOk
  cases (List.range (gd p 12).rows.length).all fun k=>clientRight ((gd p 12).rows.getD k []) ((gd p 9).rows.length:Int) <;> rfl
 ·show s_l16ClientsOkL0 _ p [_,_,_,_,_,_,_,_,_,_,_,_,_,_,_,_,_,_,.i (k:Int),_,_,_,_,_,_,_,_,_,_,_,_,_,_,_]=_
  rw [s_l16ClientsOkR0]
  simp only [int_i,c_lt hk,nd_ix hk,Int.toNat_natCast]
  rw [show clientOk (sub ((gd p 12).rows.getD k []) 0 9)=clientOk ((gd p 12).rows.getD k []) from rfl]
  unfold clientRight
  cases hc:clientOk ((gd p 12).rows.getD k [])
  ·rfl
  cases ho:ownersIn (gd ((gd p 12).rows.getD k []) 8) ((gd p 9).rows.length:Int)
  ·cases ltI (gd ((gd p 12).rows.getD k []) 7).int ((gd p 9).rows.length:Int) <;> rfl
  rw [leI_not]
  cases ht:ltI (gd ((gd p 12).rows.getD k []) 7).int ((gd p 9).rows.length:Int)
  ·rfl
  simp only [Bool.not_true,cond_false]
  rw [clients_in p _ k _ _ (by omega) (client_seen hc)]
  cases seenIn (gd ((gd p 12).rows.getD k []) 4) ((gd p 9).rows.length:Int)
  ·rfl
  ·simp only [nd,cond_true,cond_false,Option.isSome_some,Out.code,Out.pay,Option.getD_some,gd_cons_zero,gd_cons_succ,Nat.reduceBEq,Nat.reduceAdd,int_i,w64_succ hk hl]
   rfl
 ·show s_l16ClientsOkL0 _ p [_,_,_,_,_,_,_,_,_,_,_,_,_,_,_,_,_,_,.i ((gd p 12).rows.length:Int),_,_,_,_,_,_,_,_,_,_,_,_,_,_,_]=_
  rw [s_l16ClientsOkR0]
  simp only [int_i,c_nlt]
abbrev i_StoreNewT:FuncId→List T→Option (T × Bool):=find [i_StoreOkE,i_WritesOkE,i_valueOfE]
theorem i_StoreNewT_ok:CallOk Tryz.prog i_StoreNewT:=find_ok (fC ⟨i_StoreOk_ok,fC ⟨i_WritesOk_ok,fC ⟨i_valueOf_ok,fN⟩⟩⟩)
abbrev i_StoreNewK:List Nat:= [0,1,4,5,7,15,16,17,18,19,31]
noncomputable def i_StoreNewL0 (N:Nat) (p q:List D):List D→Out:=loopOf Tryz.prog i_StoreNewT N i_StoreNewK Tryz.f198 ri [⟨sd (.sl 131),p⟩,⟨sd (.sl 178),q⟩] 0
theorem i_StoreNewR0 (N:Nat) (p q:List D) (x0 x1 x2 x3 x4 x5 x6 x7:D):(i_StoreNewL0 N p q) [x0,x1,x2,x3,x4,x5,x6,x7] =
 bif ltI x7.int x6.int then nd (inRange x7.int x5.rows.length) (bif (gd (x5.rows.getD x7.int.toNat []) 1).int != (-1) then nd (storeOk x0&&inB (gd (x5.rows.getD x7.int.toNat []) 0).int 0 999) (bif ltI (valD x0 (gd (x5.rows.getD x7.int.toNat []) 0).int).int 0 then nx [x0,x1,x2,x3,.i (w64 (x4.int+1)),x5,x6,.i (w64 (x7.int+1))]
 else nx [x0,x1,x2,x3,x4,x5,x6,.i (w64 (x7.int+1))])
 else nx [x0,x1,x2,x3,x4,x5,x6,.i (w64 (x7.int+1))])
 else ex 0 [x0,x1,x2,x3,x4,x5,x6,x7]:=by kernel_rfl
theorem i_StoreNew_ev (N:Nat) (p q:List D):evFn Tryz.prog i_StoreNewT N i_StoreNewK Tryz.f198 ri [⟨sd (.sl 131),p⟩,⟨sd (.sl 178),q⟩]=some (bo,
 bif !(storeOk (gd p 0)) then oi (-1)
 else bif !(writesOk (gd q 0)) then oi (-1)
 else (let o0:=iter (i_StoreNewL0 N p q) N [gd p 0,gd q 0,.i 0,.b (!(writesOk (gd q 0))),.i 0,gd q 0,.i ((gd q 0).rows.length:Int),.i 0]
  nd o0.isSome (nd (o0.code==2) (some (1,[gd o0.pay 4]))))):=by kernel_rfl
def newAt (z w:D) (k:Nat):Bool:=leI 0 (gd (w.rows.getD k []) 1).int&&ltI (valD z (gd (w.rows.getD k []) 0).int).int 0
def storeNew (z w:D):Int:=bif storeOk z then bif writesOk w then (cnt (newAt z w) 0 w.rows.length:Int) else -1 else -1
theorem write_at {w:D} (h:writesOk w=true) {k:Nat} (hk:k<w.rows.length):w.rows.length≤60∧inB (gd (w.rows.getD k []) 0).int 0 999=true∧((gd (w.rows.getD k []) 1).int != (-1))=leI 0 (gd (w.rows.getD k []) 1).int:=by
 simp only [writesOk,Bool.and_eq_true,List.all_eq_true,List.mem_range,decide_eq_true_eq] at h
 obtain ⟨hl,h⟩:=h
 have:=h k hk
 simp only [writeAt,Bool.and_eq_true] at this
 refine ⟨by omega,this.1,?_⟩
 have h2:=this.2.1
 simp only [inB,Bool.and_eq_true,decide_eq_true_eq] at h2
 rw [Bool.eq_iff_iff]
 simp only [bne_iff_ne,ne_eq,leI,decide_eq_true_eq]
 omega
theorem writes_len60 {w:D} (h:writesOk w=true):w.rows.length≤60:=by
 simp only [writesOk,Bool.and_eq_true,decide_eq_true_eq] at h
 omega
theorem new_step (z w:D) (k:Nat) (h:k<1000):(cnt (newAt z w) 0 (k+1):Int)=bif newAt z w k then w64 ((cnt (newAt z w) 0 k:Int)+1) else (cnt (newAt z w) 0 k:Int):=by
 have:=cnt_le (newAt z w) k 0
 rw [cnt_succ,Nat.zero_add]
 cases newAt z w k
 ·rfl
 ·rw [cond_true,cond_true,w64_id (by omega) (by omega)]; omega
def i_StoreNewE:Ent:=(198,e2 (sd (.sl 131)) (sd (.sl 178)) fun p q=>(⟨ri,[.i (storeNew (gd p 0) (gd q 0))]⟩,true))
theorem i_StoreNew_ok:EntOk Tryz.prog i_StoreNewE:=e2_ok fun p q h=>evFn_sound (N:=61) (ks:=i_StoreNewK) (key:=bo) i_StoreNewT_ok (enters Tryz.func198) Tryz.func198 fun hw=>by
 rw [i_StoreNew_ev]
 unfold storeNew
 cases hz:storeOk (gd p 0)
 ·rfl
 cases hw:writesOk (gd q 0)
 ·rfl
 have hlen:=writes_len60 hw
 simp only [Bool.not_true,cond_false,cond_true]
 have e:=run_loop (L:=i_StoreNewL0 61 p q) (fun k => [gd p 0,gd q 0,.i 0,.b false,.i (cnt (newAt (gd p 0) (gd q 0)) 0 k:Int),gd q 0,.i ((gd q 0).rows.length:Int),.i (k:Int)]) (gd q 0).rows.length 0 (fun k hk=>?_) ?_ (N:=61) (by omega)
 ·simp only [Int.natCast_zero,cnt_zero] at e
  rw [e]
  rfl
 ·show i_StoreNewL0 _ p q [_,_,_,_,_,_,_,.i (k:Int)]=_
  rw [i_StoreNewR0]
  obtain ⟨_,hk2,hk3⟩:=write_at hw hk
  simp only [int_i,c_lt hk,nd_ix hk,w64_succ hk (show (gd q 0).rows.length≤9223372036854775807 from by omega),Int.toNat_natCast]
  rw [hz,hk2,hk3,new_step _ _ _ (show k<1000 from by omega)]
  unfold newAt
  cases leI 0 (gd ((gd q 0).rows.getD k []) 1).int <;> cases ltI (valD (gd p 0) (gd ((gd q 0).rows.getD k []) 0).int).int 0 <;> rfl
 ·show i_StoreNewL0 _ p q [_,_,_,_,_,_,.i ((gd q 0).rows.length:Int),.i ((gd q 0).rows.length:Int)]=_
  rw [i_StoreNewR0]
  simp only [int_i,c_nlt]
abbrev s_StoreNewT:FuncId→List T→Option (T × Bool):=find [s_StoreOkE,s_WritesOkE,s_l11GetE]
theorem s_StoreNewT_ok:CallOk Tryz.prog s_StoreNewT:=find_ok (fC ⟨s_StoreOk_ok,fC ⟨s_WritesOk_ok,fC ⟨s_l11Get_ok,fN⟩⟩⟩)
abbrev s_StoreNewK:List Nat:= [0,1,4,5,6,14,18,36]
noncomputable def s_StoreNewL0 (N:Nat) (p q:List D):List D→Out:=loopOf Tryz.prog s_StoreNewT N s_StoreNewK Tryz.f179 ri [⟨sd (.sl 131),p⟩,⟨sd (.sl 178),q⟩] 0
theorem s_StoreNewR0 (N:Nat) (p q:List D) (x0 x1 x2 x3 x4 x5:D):(s_StoreNewL0 N p q) [x0,x1,x2,x3,x4,x5] =
 bif ltI x5.int (x1.rows.length:Int) then nd (inRange x5.int x1.rows.length) (bif leI 0 (gd (x1.rows.getD x5.int.toNat []) 1).int then nd (inRange x5.int x1.rows.length) (nd (storeOk x0) (bif ltI (valD x0 (gd (x1.rows.getD x5.int.toNat []) 0).int).int 0 then nx [x0,x1,x2,x3,.i (w64 (x4.int+1)),.i (w64 (x5.int+1))]
 else nx [x0,x1,x2,x3,x4,.i (w64 (x5.int+1))]))
 else nx [x0,x1,x2,x3,x4,.i (w64 (x5.int+1))])
 else ex 0 [x0,x1,x2,x3,x4,x5]:=by kernel_rfl
theorem s_StoreNew_ev (N:Nat) (p q:List D):evFn Tryz.prog s_StoreNewT N s_StoreNewK Tryz.f179 ri [⟨sd (.sl 131),p⟩,⟨sd (.sl 178),q⟩]=some (bo,
 bif !(storeOk (gd p 0)) then oi (-1)
 else bif !(writesOk (gd q 0)) then oi (-1)
 else (let o0:=iter (s_StoreNewL0 N p q) N [gd p 0,gd q 0,.i 0,.b (!(writesOk (gd q 0))),.i 0,.i 0]
  nd o0.isSome (nd (o0.code==2) (some (1,[gd o0.pay 4]))))):=by kernel_rfl
def s_StoreNewE:Ent:=(179,e2 (sd (.sl 131)) (sd (.sl 178)) fun p q=>(⟨ri,[.i (storeNew (gd p 0) (gd q 0))]⟩,true))
theorem s_StoreNew_ok:EntOk Tryz.prog s_StoreNewE:=e2_ok fun p q h=>evFn_sound (N:=61) (ks:=s_StoreNewK) (key:=bo) s_StoreNewT_ok (enters Tryz.func179) Tryz.func179 fun hw=>by
 rw [s_StoreNew_ev]
 unfold storeNew
 cases hz:storeOk (gd p 0)
 ·rfl
 cases hw:writesOk (gd q 0)
 ·rfl
 have hlen:=writes_len60 hw
 simp only [Bool.not_true,cond_false,cond_true]
 have e:=run_loop (L:=s_StoreNewL0 61 p q) (fun k => [gd p 0,gd q 0,.i 0,.b false,.i (cnt (newAt (gd p 0) (gd q 0)) 0 k:Int),.i (k:Int)]) (gd q 0).rows.length 0 (fun k hk=>?_) ?_ (N:=61) (by omega)
 ·simp only [Int.natCast_zero,cnt_zero] at e
  rw [e]
  rfl
 ·show s_StoreNewL0 _ p q [_,_,_,_,_,.i (k:Int)]=_
  rw [s_StoreNewR0]
  simp only [int_i,c_lt hk,nd_ix hk,w64_succ hk (show (gd q 0).rows.length≤9223372036854775807 from by omega),Int.toNat_natCast]
  rw [hz,nd_true,new_step _ _ _ (show k<1000 from by omega)]
  unfold newAt
  cases leI 0 (gd ((gd q 0).rows.getD k []) 1).int <;> cases ltI (valD (gd p 0) (gd ((gd q 0).rows.getD k []) 0).int).int 0 <;> rfl
 ·show s_StoreNewL0 _ p q [_,_,_,_,_,.i ((gd q 0).rows.length:Int)]=_
  rw [s_StoreNewR0]
  simp only [int_i,c_nlt]
end Go.Proofs.YtecefnhhlaolmaaGreat
namespace Go.Proofs.YtecefnhhlaolmaaGreat
set_option maxRecDepth 4096
set_option maxHeartbeats 1000000
abbrev i_roomT:FuncId→List T→Option (T × Bool):=find [i_StoreNewE]
theorem i_roomT_ok:CallOk Tryz.prog i_roomT:=find_ok (fC ⟨i_StoreNew_ok,fN⟩)
abbrev i_roomK:List Nat:= [0,1,2,3,5,10,11,12,13]
noncomputable def i_roomL0 (N:Nat) (p:List D):List D→Out:=loopOf Tryz.prog i_roomT N i_roomK Tryz.f144 ri [⟨ag rIShard,p⟩] 0
theorem i_roomR0 (N:Nat) (p:List D) (x0 x1 x2 x3 x4 x5 x6 x7 x8 x9 x10 x11 x12 x13 x14 x15 x16 x17 x18 x19 x20 x21 x22 x23:D):(i_roomL0 N p) [x0,x1,x2,x3,x4,x5,x6,x7,x8,x9,x10,x11,x12,x13,x14,x15,x16,x17,x18,x19,x20,x21,x22,x23] =
 bif ltI x14.int x13.int then nd (inRange x14.int x12.rows.length) (nx [x0,x1,x2,x3,x4,x5,x6,x7,x8,x9,x10,.i (w64 (x11.int+(storeNew x18 (gd (x12.rows.getD x14.int.toNat []) 1)))),x12,x13,.i (w64 (x14.int+1)),x15,x16,x17,x18,x19,x20,x21,x22,x23])
 else ex 0 [x0,x1,x2,x3,x4,x5,x6,x7,x8,x9,x10,x11,x12,x13,x14,x15,x16,x17,x18,x19,x20,x21,x22,x23]:=by kernel_rfl
theorem i_room_ev (N:Nat) (p:List D):evFn Tryz.prog i_roomT N i_roomK Tryz.f144 ri [⟨ag rIShard,p⟩]=some (bo,
 (let o0:=iter (i_roomL0 N p) N [gd p 0,gd p 1,gd p 2,gd p 3,gd p 4,gd p 5,gd p 6,gd p 7,gd p 8,.i 0,.i 0,.i ((gd p 3).rows.length:Int),gd p 5,.i ((gd p 5).rows.length:Int),.i 0,gd p 0,gd p 1,gd p 2,gd p 3,gd p 4,gd p 5,gd p 6,gd p 7,gd p 8]
  nd o0.isSome (nd (o0.code==2) (some (1,[gd o0.pay 11]))))):=by kernel_rfl
def newSum (c hs:D):Nat→Int
 | 0=>0
 | k+1=>newSum c hs k+storeNew c (gd (hs.rows.getD k []) 1)
def roomOf (p:List D):Int:=((gd p 3).rows.length:Int)+newSum (gd p 3) (gd p 5) (gd p 5).rows.length
theorem storeNew_in (c w:D) : -1≤storeNew c w∧storeNew c w≤60:=by
 unfold storeNew
 cases storeOk c
 ·simp only [cond_false]; omega
 cases h:writesOk w
 ·simp only [cond_true,cond_false]; omega
 have h1:=writes_len60 h
 have h2:=cnt_le (newAt c w) w.rows.length 0
 simp only [cond_true]
 omega
theorem newSum_in (c hs:D):∀ k:Nat,-(k:Int)≤newSum c hs k∧newSum c hs k≤60*(k:Int)
 | 0=>⟨by simp only [newSum]; omega,by simp only [newSum]; omega⟩
 | k+1=>by
  have h1:=newSum_in c hs k
  have h2:=storeNew_in c (gd (hs.rows.getD k []) 1)
  simp only [newSum]
  omega
def i_roomE:Ent:=(144,e1 (ag rIShard) fun p=>(⟨ri,[.i (roomOf p)]⟩,leI ((gd p 3).rows.length:Int) 1000000000&&leI ((gd p 5).rows.length:Int) 1000000000))
theorem i_room_ok:EntOk Tryz.prog i_roomE:=e1_ok fun p h=>evFn_sound (N:=(gd p 5).rows.length+1) (ks:=i_roomK) (key:=bo) i_roomT_ok (enters Tryz.func144) Tryz.func144 fun hw=>by
 rw [i_room_ev]
 have h:(leI ((gd p 3).rows.length:Int) 1000000000&&leI ((gd p 5).rows.length:Int) 1000000000)=true:=h
 simp only [Bool.and_eq_true,leI,decide_eq_true_eq] at h
 have e:=run_loop (L:=i_roomL0 ((gd p 5).rows.length+1) p) (fun k => [gd p 0,gd p 1,gd p 2,gd p 3,gd p 4,gd p 5,gd p 6,gd p 7,gd p 8,.i 0,.i 0,.i (((gd p 3).rows.length:Int)+newSum (gd p 3) (gd p 5) k),gd p 5,.i ((gd p 5).rows.length:Int),.i (k:Int),gd p 0,gd p 1,gd p 2,gd p 3,gd p 4,gd p 5,gd p 6,gd p 7,gd p 8]) (gd p 5).rows.length 0 (fun k hk=>?_) ?_ (N:=(gd p 5).rows.length+1) (by omega)
 ·simp only [Int.natCast_zero,newSum,Int.add_zero] at e
  rw [e]
  rfl
 ·show i_roomL0 _ p [_,_,_,_,_,_,_,_,_,_,_,_,_,_,.i (k:Int),_,_,_,_,_,_,_,_,_]=_
  rw [i_roomR0]
  have h1:=newSum_in (gd p 3) (gd p 5) k
  have h2:=storeNew_in (gd p 3) (gd ((gd p 5).rows.getD k []) 1)
  simp only [int_i,c_lt hk,nd_ix hk,w64_succ hk (show (gd p 5).rows.length≤9223372036854775807 from by omega),Int.toNat_natCast]
  rw [w64_id (by omega) (by omega),Int.add_assoc]
  rfl
 ·show i_roomL0 _ p [_,_,_,_,_,_,_,_,_,_,_,_,_,.i ((gd p 5).rows.length:Int),.i ((gd p 5).rows.length:Int),_,_,_,_,_,_,_,_,_]=_
  rw [i_roomR0]
  simp only [int_i,c_nlt]
abbrev s_l13NewT:FuncId→List T→Option (T × Bool):=find [s_StoreNewE]
theorem s_l13NewT_ok:CallOk Tryz.prog s_l13NewT:=find_ok (fC ⟨s_StoreNew_ok,fN⟩)
abbrev s_l13NewK:List Nat:= [0,1,2,3,4,9]
noncomputable def s_l13NewL0 (N:Nat) (p:List D):List D→Out:=loopOf Tryz.prog s_l13NewT N s_l13NewK Tryz.f111 ri [⟨ag rIShard,p⟩] 0
theorem s_l13NewR0 (N:Nat) (p:List D) (x0 x1 x2 x3 x4 x5 x6 x7 x8 x9 x10 x11 x12 x13 x14 x15 x16 x17 x18 x19 x20 x21:D):(s_l13NewL0 N p) [x0,x1,x2,x3,x4,x5,x6,x7,x8,x9,x10,x11,x12,x13,x14,x15,x16,x17,x18,x19,x20,x21] =
 bif ltI x12.int (x18.rows.length:Int) then nd (inRange x12.int x18.rows.length) (nx [x0,x1,x2,x3,x4,x5,x6,x7,x8,x9,x10,.i (w64 (x11.int+(storeNew x16 (gd (x18.rows.getD x12.int.toNat []) 1)))),.i (w64 (x12.int+1)),x13,x14,x15,x16,x17,x18,x19,x20,x21])
 else ex 0 [x0,x1,x2,x3,x4,x5,x6,x7,x8,x9,x10,x11,x12,x13,x14,x15,x16,x17,x18,x19,x20,x21]:=by kernel_rfl
theorem s_l13New_ev (N:Nat) (p:List D):evFn Tryz.prog s_l13NewT N s_l13NewK Tryz.f111 ri [⟨ag rIShard,p⟩]=some (bo,
 (let o0:=iter (s_l13NewL0 N p) N [gd p 0,gd p 1,gd p 2,gd p 3,gd p 4,gd p 5,gd p 6,gd p 7,gd p 8,.i 0,.i 0,.i 0,.i 0,gd p 0,gd p 1,gd p 2,gd p 3,gd p 4,gd p 5,gd p 6,gd p 7,gd p 8]
  nd o0.isSome (nd (o0.code==2) (some (1,[gd o0.pay 11]))))):=by kernel_rfl
def s_l13NewE:Ent:=(111,e1 (ag rIShard) fun p=>(⟨ri,[.i (newSum (gd p 3) (gd p 5) (gd p 5).rows.length)]⟩,leI ((gd p 5).rows.length:Int) 1000000000))
theorem s_l13New_ok:EntOk Tryz.prog s_l13NewE:=e1_ok fun p h=>evFn_sound (N:=(gd p 5).rows.length+1) (ks:=s_l13NewK) (key:=bo) s_l13NewT_ok (enters Tryz.func111) Tryz.func111 fun hw=>by
 rw [s_l13New_ev]
 have h:leI ((gd p 5).rows.length:Int) 1000000000=true:=h
 simp only [leI,decide_eq_true_eq] at h
 have e:=run_loop (L:=s_l13NewL0 ((gd p 5).rows.length+1) p) (fun k => [gd p 0,gd p 1,gd p 2,gd p 3,gd p 4,gd p 5,gd p 6,gd p 7,gd p 8,.i 0,.i 0,.i (newSum (gd p 3) (gd p 5) k),.i (k:Int),gd p 0,gd p 1,gd p 2,gd p 3,gd p 4,gd p 5,gd p 6,gd p 7,gd p 8]) (gd p 5).rows.length 0 (fun k hk=>?_) ?_ (N:=(gd p 5).rows.length+1) (by omega)
 ·simp only [Int.natCast_zero,newSum] at e
  rw [e]
  rfl
 ·show s_l13NewL0 _ p [_,_,_,_,_,_,_,_,_,_,_,_,.i (k:Int),_,_,_,_,_,_,_,_,_]=_
  rw [s_l13NewR0]
  have h1:=newSum_in (gd p 3) (gd p 5) k
  have h2:=storeNew_in (gd p 3) (gd ((gd p 5).rows.getD k []) 1)
  simp only [int_i,c_lt hk,nd_ix hk,w64_succ hk (show (gd p 5).rows.length≤9223372036854775807 from by omega),Int.toNat_natCast]
  rw [w64_id (by omega) (by omega)]
  rfl
 ·show s_l13NewL0 _ p [_,_,_,_,_,_,_,_,_,_,_,_,.i ((gd p 5).rows.length:Int),_,_,_,_,_,_,_,_,_]=_
  rw [s_l13NewR0]
  simp only [int_i,c_nlt]
end Go.Proofs.YtecefnhhlaolmaaGreat
namespace Go.Proofs.YtecefnhhlaolmaaGreat
set_option maxRecDepth 4096
set_option maxHeartbeats 1000000
abbrev i_ShardOk_1T:FuncId→List T→Option (T × Bool):=find [i_haveAllE]
theorem i_ShardOk_1T_ok:CallOk Tryz.prog i_ShardOk_1T:=find_ok (fC ⟨i_haveAll_ok,fN⟩)
abbrev i_ShardOk_1K:List Nat:= [0,1,2,3]
theorem i_ShardOk_1_ev (N:Nat) (p q:List D):evFn Tryz.prog i_ShardOk_1T N i_ShardOk_1K Tryz.f130 rb [⟨ag rIRange,p⟩,⟨.one (.c (.cptr [si,.sl 82,.sl 82,.sl 131,.sl 133,.sl 177,.sl 3,.sl 3,si] 0)),q⟩]=some (bo,
 ob (!(haveAll (gd ((gd q 0).rows.getD 0 []) 1) (sub p 0 2)))):=by kernel_rfl
def i_ShardOk_1F (p q:List D):Bool:=
 !(haveAll (gd ((gd q 0).rows.getD 0 []) 1) (sub p 0 2))
def i_ShardOk_1E:Ent:=(130,e2 (ag rIRange) (.one (.c (.cptr [si,.sl 82,.sl 82,.sl 131,.sl 133,.sl 177,.sl 3,.sl 3,si] 0))) fun p q=>(⟨rb,[.b (i_ShardOk_1F p [gd q 0])]⟩,true))
theorem i_ShardOk_1_ok:EntOk Tryz.prog i_ShardOk_1E:=e2_ok fun p q h=>evFn_sound (N:=0) (ks:=i_ShardOk_1K) (key:=bo) i_ShardOk_1T_ok (enters Tryz.func130) Tryz.func130 fun hw=>by
 rw [i_ShardOk_1_ev]
 try simp only [cond_ob,cond_oi,cond_os]
 rfl
abbrev i_ShardOk_2T:FuncId→List T→Option (T × Bool):=find [i_oneE,i_haveAllE]
theorem i_ShardOk_2T_ok:CallOk Tryz.prog i_ShardOk_2T:=find_ok (fC ⟨i_one_ok,fC ⟨i_haveAll_ok,fN⟩⟩)
abbrev i_ShardOk_2K:List Nat:= [0,1,2,3]
theorem i_ShardOk_2_ev (N:Nat) (p q:List D):evFn Tryz.prog i_ShardOk_2T N i_ShardOk_2K Tryz.f133 rb [⟨ag rICell,p⟩,⟨.one (.c (.cptr [si,.sl 82,.sl 82,.sl 131,.sl 133,.sl 177,.sl 3,.sl 3,si] 0)),q⟩]=some (bo,
 ob (!(haveAll (gd ((gd q 0).rows.getD 0 []) 1) [(gd p 0),.i (w64 ((gd p 0).int+1))]))):=by kernel_rfl
def i_ShardOk_2F (p q:List D):Bool:=
 !(haveAll (gd ((gd q 0).rows.getD 0 []) 1) [(gd p 0),.i (w64 ((gd p 0).int+1))])
def i_ShardOk_2E:Ent:=(133,e2 (ag rICell) (.one (.c (.cptr [si,.sl 82,.sl 82,.sl 131,.sl 133,.sl 177,.sl 3,.sl 3,si] 0))) fun p q=>(⟨rb,[.b (i_ShardOk_2F p [gd q 0])]⟩,true))
theorem i_ShardOk_2_ok:EntOk Tryz.prog i_ShardOk_2E:=e2_ok fun p q h=>evFn_sound (N:=0) (ks:=i_ShardOk_2K) (key:=bo) i_ShardOk_2T_ok (enters Tryz.func133) Tryz.func133 fun hw=>by
 rw [i_ShardOk_2_ev]
 try simp only [cond_ob,cond_oi,cond_os]
 rfl
abbrev i_ShardOk_3T:FuncId→List T→Option (T × Bool):=find [i_LkeysE,i_haveAllE,coIE]
theorem i_ShardOk_3T_ok:CallOk Tryz.prog i_ShardOk_3T:=find_ok (fC ⟨i_Lkeys_ok,fC ⟨i_haveAll_ok,fC ⟨coI_ok,fN⟩⟩⟩)
abbrev i_ShardOk_3K:List Nat:= [0,1,2,3,4]
theorem i_ShardOk_3_ev (N:Nat) (p q r:List D):evFn Tryz.prog i_ShardOk_3T N i_ShardOk_3K Tryz.f137 rb [⟨ag rILock,p⟩,⟨.one (.c (.cptr [si,.sl 82,.sl 82,.sl 131,.sl 133,.sl 177,.sl 3,.sl 3,si] 0)),q⟩,⟨.one (.c (.cptr [.sl 3] 0)),r⟩]=some (bo,
 bif !(haveAll (gd ((gd q 0).rows.getD 0 []) 1) [(gd p 1),(gd p 2)]) then ob true
 else ob (hasInt (gd ((gd r 0).rows.getD 0 []) 0) (gd p 0).int)):=by kernel_rfl
def i_ShardOk_3F (p q r:List D):Bool:=
 bif !(haveAll (gd ((gd q 0).rows.getD 0 []) 1) [(gd p 1),(gd p 2)]) then true
 else hasInt (gd ((gd r 0).rows.getD 0 []) 0) (gd p 0).int
def i_ShardOk_3E:Ent:=(137,e3 (ag rILock) (.one (.c (.cptr [si,.sl 82,.sl 82,.sl 131,.sl 133,.sl 177,.sl 3,.sl 3,si] 0))) (.one (.c (.cptr [.sl 3] 0))) fun p q r=>(⟨rb,[.b (i_ShardOk_3F p [gd q 0] [gd r 0])]⟩,true))
theorem i_ShardOk_3_ok:EntOk Tryz.prog i_ShardOk_3E:=e3_ok fun p q r h=>evFn_sound (N:=0) (ks:=i_ShardOk_3K) (key:=bo) i_ShardOk_3T_ok (enters Tryz.func137) Tryz.func137 fun hw=>by
 rw [i_ShardOk_3_ev]
 try simp only [cond_ob,cond_oi,cond_os]
 rfl
abbrev ixfSFT:FuncId→List T→Option (T × Bool):=find [i_ShardOk_1E]
theorem ixfSFT_ok:CallOk Tryz.prog ixfSFT:=find_ok (fC ⟨i_ShardOk_1_ok,fN⟩)
abbrev ixfSFK:List Nat:= [0,1,4,5,7,8,9,16]
noncomputable def ixfSFL0 (N:Nat) (p q:List D):List D→Out:=loopOf Tryz.prog ixfSFT N ixfSFK Tryz.f191 ri [⟨sd (.sl 82),p⟩,⟨.one (.c (.fn 130 [.cptr [si,.sl 82,.sl 82,.sl 131,.sl 133,.sl 177,.sl 3,.sl 3,si] 0])),q⟩] 0
theorem ixfSFR0 (N:Nat) (p q:List D) (x0 x1 x2 x3 x4:D):(ixfSFL0 N p q) [x0,x1,x2,x3,x4] =
 bif ltI x4.int x3.int then nd (inRange x4.int x0.rows.length) (bif i_ShardOk_1F (sub (x0.rows.getD x4.int.toNat []) 0 2) [gd (x1.rows.getD 0 []) 0] then some (1,[x4])
 else nx [x0,x1,x2,x3,.i (w64 (x4.int+1))])
 else ex 0 [x0,x1,x2,x3,x4]:=by kernel_rfl
theorem ixfSF_ev (N:Nat) (p q:List D):evFn Tryz.prog ixfSFT N ixfSFK Tryz.f191 ri [⟨sd (.sl 82),p⟩,⟨.one (.c (.fn 130 [.cptr [si,.sl 82,.sl 82,.sl 131,.sl 133,.sl 177,.sl 3,.sl 3,si] 0])),q⟩]=some (bo,
 (let o0:=iter (ixfSFL0 N p q) N [gd p 0,gd q 0,.i 0,.i ((gd p 0).rows.length:Int),.i 0]
  nd o0.isSome (bif o0.code==1 then some (1,o0.pay)
  else nd (o0.code==2) (oi (-1))))):=by kernel_rfl
def ixfSFC (c:D) (r:List D):Bool:=i_ShardOk_1F r [gd (c.rows.getD 0 []) 0]
def ixfSFE:Ent:=(191,e2 (sd (.sl 82)) (.one (.c (.fn 130 [.cptr [si,.sl 82,.sl 82,.sl 131,.sl 133,.sl 177,.sl 3,.sl 3,si] 0]))) fun p q=>(⟨ri,[.i (ixF (fun k=>ixfSFC (gd q 0) (sub ((gd p 0).rows.getD k []) 0 2)) 0 (gd p 0).rows.length)]⟩,true))
theorem ixfSF_ok:EntOk Tryz.prog ixfSFE:=e2_ok fun p q h=>evFn_sound (N:=(gd p 0).rows.length+1) (ks:=ixfSFK) (key:=bo) ixfSFT_ok (enters Tryz.func191) Tryz.func191 fun hw=>by
 rw [ixfSF_ev]
 have hl:=wt_sl (hw ⟨sd (.sl 82),p⟩ (by simp))
 have e:=ix_loop (L:=ixfSFL0 ((gd p 0).rows.length+1) p q) (fun k => [gd p 0,gd q 0,.i 0,.i ((gd p 0).rows.length:Int),.i (k:Int)]) (gd p 0).rows.length (fun k=>ixfSFC (gd q 0) (sub ((gd p 0).rows.getD k []) 0 2)) [gd p 0,gd q 0,.i 0,.i ((gd p 0).rows.length:Int),.i ((gd p 0).rows.length:Int)] (fun k hk=>?_) ?_ (gd p 0).rows.length 0 ((gd p 0).rows.length+1) (by omega) (by omega)
 ·simp only [Int.natCast_zero] at e
  rw [e]
  have hno:=ixF_neg (fun k=>ixfSFC (gd q 0) (sub ((gd p 0).rows.getD k []) 0 2)) (gd p 0).rows.length 0
  cases hd:decide (ixF (fun k=>ixfSFC (gd q 0) (sub ((gd p 0).rows.getD k []) 0 2)) 0 (gd p 0).rows.length≥0)
  ·rw [hno hd]; rfl
  ·rfl
 ·show ixfSFL0 _ p q [_,_,_,_,.i (k:Int)]=_
  rw [ixfSFR0]
  simp only [int_i,c_lt hk,nd_ix hk,w64_succ hk hl,Int.toNat_natCast]
  unfold ixfSFC
  cases i_ShardOk_1F (sub ((gd p 0).rows.getD k []) 0 2) [gd ((gd q 0).rows.getD 0 []) 0] <;> rfl
 ·show ixfSFL0 _ p q [_,_,_,.i ((gd p 0).rows.length:Int),.i ((gd p 0).rows.length:Int)]=_
  rw [ixfSFR0]
  simp only [int_i,c_nlt]
abbrev cofSFT:FuncId→List T→Option (T × Bool):=find [ixfSFE,i_ShardOk_1E]
theorem cofSFT_ok:CallOk Tryz.prog cofSFT:=find_ok (fC ⟨ixfSF_ok,fC ⟨i_ShardOk_1_ok,fN⟩⟩)
abbrev cofSFK:List Nat:= [0,1,4]
theorem cofSF_ev (N:Nat) (p q:List D):evFn Tryz.prog cofSFT N cofSFK Tryz.f129 rb [⟨sd (.sl 82),p⟩,⟨.one (.c (.fn 130 [.cptr [si,.sl 82,.sl 82,.sl 131,.sl 133,.sl 177,.sl 3,.sl 3,si] 0])),q⟩]=some (bo,
 ob (leI 0 (ixF (fun k=>ixfSFC (.l [[gd ((gd q 0).rows.getD 0 []) 0]]) (sub ((gd p 0).rows.getD k []) 0 2)) 0 (gd p 0).rows.length))):=by kernel_rfl
def cofSFE:Ent:=(129,e2 (sd (.sl 82)) (.one (.c (.fn 130 [.cptr [si,.sl 82,.sl 82,.sl 131,.sl 133,.sl 177,.sl 3,.sl 3,si] 0]))) fun p q=>(⟨rb,[.b (anyS (fun rr=>ixfSFC (gd q 0) (sub rr 0 2)) (gd p 0))]⟩,true))
theorem cofSF_ok:EntOk Tryz.prog cofSFE:=e2_ok fun p q h=>evFn_sound (N:=0) (ks:=cofSFK) (key:=bo) cofSFT_ok (enters Tryz.func129) Tryz.func129 fun hw=>by
 rw [cofSF_ev]
 refine congrArg (fun x=>some (bo,ob x)) ?_
 exact (ixF_any (fun k=>ixfSFC (gd q 0) (sub ((gd p 0).rows.getD k []) 0 2)) (gd p 0).rows.length 0).trans (by simp only [Nat.zero_add]; rfl)
abbrev ixfSCT:FuncId→List T→Option (T × Bool):=find [i_ShardOk_2E]
theorem ixfSCT_ok:CallOk Tryz.prog ixfSCT:=find_ok (fC ⟨i_ShardOk_2_ok,fN⟩)
abbrev ixfSCK:List Nat:= [0,1,4,5,7,8,9,16]
noncomputable def ixfSCL0 (N:Nat) (p q:List D):List D→Out:=loopOf Tryz.prog ixfSCT N ixfSCK Tryz.f192 ri [⟨sd (.sl 131),p⟩,⟨.one (.c (.fn 133 [.cptr [si,.sl 82,.sl 82,.sl 131,.sl 133,.sl 177,.sl 3,.sl 3,si] 0])),q⟩] 0
theorem ixfSCR0 (N:Nat) (p q:List D) (x0 x1 x2 x3 x4:D):(ixfSCL0 N p q) [x0,x1,x2,x3,x4] =
 bif ltI x4.int x3.int then nd (inRange x4.int x0.rows.length) (bif i_ShardOk_2F (sub (x0.rows.getD x4.int.toNat []) 0 2) [gd (x1.rows.getD 0 []) 0] then some (1,[x4])
 else nx [x0,x1,x2,x3,.i (w64 (x4.int+1))])
 else ex 0 [x0,x1,x2,x3,x4]:=by kernel_rfl
theorem ixfSC_ev (N:Nat) (p q:List D):evFn Tryz.prog ixfSCT N ixfSCK Tryz.f192 ri [⟨sd (.sl 131),p⟩,⟨.one (.c (.fn 133 [.cptr [si,.sl 82,.sl 82,.sl 131,.sl 133,.sl 177,.sl 3,.sl 3,si] 0])),q⟩]=some (bo,
 (let o0:=iter (ixfSCL0 N p q) N [gd p 0,gd q 0,.i 0,.i ((gd p 0).rows.length:Int),.i 0]
  nd o0.isSome (bif o0.code==1 then some (1,o0.pay)
  else nd (o0.code==2) (oi (-1))))):=by kernel_rfl
def ixfSCC (c:D) (r:List D):Bool:=i_ShardOk_2F r [gd (c.rows.getD 0 []) 0]
def ixfSCE:Ent:=(192,e2 (sd (.sl 131)) (.one (.c (.fn 133 [.cptr [si,.sl 82,.sl 82,.sl 131,.sl 133,.sl 177,.sl 3,.sl 3,si] 0]))) fun p q=>(⟨ri,[.i (ixF (fun k=>ixfSCC (gd q 0) (sub ((gd p 0).rows.getD k []) 0 2)) 0 (gd p 0).rows.length)]⟩,true))
theorem ixfSC_ok:EntOk Tryz.prog ixfSCE:=e2_ok fun p q h=>evFn_sound (N:=(gd p 0).rows.length+1) (ks:=ixfSCK) (key:=bo) ixfSCT_ok (enters Tryz.func192) Tryz.func192 fun hw=>by
 rw [ixfSC_ev]
 have hl:=wt_sl (hw ⟨sd (.sl 131),p⟩ (by simp))
 have e:=ix_loop (L:=ixfSCL0 ((gd p 0).rows.length+1) p q) (fun k => [gd p 0,gd q 0,.i 0,.i ((gd p 0).rows.length:Int),.i (k:Int)]) (gd p 0).rows.length (fun k=>ixfSCC (gd q 0) (sub ((gd p 0).rows.getD k []) 0 2)) [gd p 0,gd q 0,.i 0,.i ((gd p 0).rows.length:Int),.i ((gd p 0).rows.length:Int)] (fun k hk=>?_) ?_ (gd p 0).rows.length 0 ((gd p 0).rows.length+1) (by omega) (by omega)
 ·simp only [Int.natCast_zero] at e
  rw [e]
  have hno:=ixF_neg (fun k=>ixfSCC (gd q 0) (sub ((gd p 0).rows.getD k []) 0 2)) (gd p 0).rows.length 0
  cases hd:decide (ixF (fun k=>ixfSCC (gd q 0) (sub ((gd p 0).rows.getD k []) 0 2)) 0 (gd p 0).rows.length≥0)
  ·rw [hno hd]; rfl
  ·rfl
 ·show ixfSCL0 _ p q [_,_,_,_,.i (k:Int)]=_
  rw [ixfSCR0]
  simp only [int_i,c_lt hk,nd_ix hk,w64_succ hk hl,Int.toNat_natCast]
  unfold ixfSCC
  cases i_ShardOk_2F (sub ((gd p 0).rows.getD k []) 0 2) [gd ((gd q 0).rows.getD 0 []) 0] <;> rfl
 ·show ixfSCL0 _ p q [_,_,_,.i ((gd p 0).rows.length:Int),.i ((gd p 0).rows.length:Int)]=_
  rw [ixfSCR0]
  simp only [int_i,c_nlt]
abbrev cofSCT:FuncId→List T→Option (T × Bool):=find [ixfSCE,i_ShardOk_2E]
theorem cofSCT_ok:CallOk Tryz.prog cofSCT:=find_ok (fC ⟨ixfSC_ok,fC ⟨i_ShardOk_2_ok,fN⟩⟩)
abbrev cofSCK:List Nat:= [0,1,4]
theorem cofSC_ev (N:Nat) (p q:List D):evFn Tryz.prog cofSCT N cofSCK Tryz.f132 rb [⟨sd (.sl 131),p⟩,⟨.one (.c (.fn 133 [.cptr [si,.sl 82,.sl 82,.sl 131,.sl 133,.sl 177,.sl 3,.sl 3,si] 0])),q⟩]=some (bo,
 ob (leI 0 (ixF (fun k=>ixfSCC (.l [[gd ((gd q 0).rows.getD 0 []) 0]]) (sub ((gd p 0).rows.getD k []) 0 2)) 0 (gd p 0).rows.length))):=by kernel_rfl
def cofSCE:Ent:=(132,e2 (sd (.sl 131)) (.one (.c (.fn 133 [.cptr [si,.sl 82,.sl 82,.sl 131,.sl 133,.sl 177,.sl 3,.sl 3,si] 0]))) fun p q=>(⟨rb,[.b (anyS (fun rr=>ixfSCC (gd q 0) (sub rr 0 2)) (gd p 0))]⟩,true))
theorem cofSC_ok:EntOk Tryz.prog cofSCE:=e2_ok fun p q h=>evFn_sound (N:=0) (ks:=cofSCK) (key:=bo) cofSCT_ok (enters Tryz.func132) Tryz.func132 fun hw=>by
 rw [cofSC_ev]
 refine congrArg (fun x=>some (bo,ob x)) ?_
 exact (ixF_any (fun k=>ixfSCC (gd q 0) (sub ((gd p 0).rows.getD k []) 0 2)) (gd p 0).rows.length 0).trans (by simp only [Nat.zero_add]; rfl)
abbrev ixfSLT:FuncId→List T→Option (T × Bool):=find [i_ShardOk_3E]
theorem ixfSLT_ok:CallOk Tryz.prog ixfSLT:=find_ok (fC ⟨i_ShardOk_3_ok,fN⟩)
abbrev ixfSLK:List Nat:= [0,1,4,5,7,8,9,16]
noncomputable def ixfSLL0 (N:Nat) (p q:List D):List D→Out:=loopOf Tryz.prog ixfSLT N ixfSLK Tryz.f194 ri [⟨sd (.sl 133),p⟩,⟨.one (.c (.fn 137 [.cptr [si,.sl 82,.sl 82,.sl 131,.sl 133,.sl 177,.sl 3,.sl 3,si] 0,.cptr [.sl 3] 0])),q⟩] 0
theorem ixfSLR0 (N:Nat) (p q:List D) (x0 x1 x2 x3 x4:D):(ixfSLL0 N p q) [x0,x1,x2,x3,x4] =
 bif ltI x4.int x3.int then nd (inRange x4.int x0.rows.length) (bif i_ShardOk_3F (sub (x0.rows.getD x4.int.toNat []) 0 4) [gd (x1.rows.getD 0 []) 0] [gd (x1.rows.getD 0 []).tail 0] then some (1,[x4])
 else nx [x0,x1,x2,x3,.i (w64 (x4.int+1))])
 else ex 0 [x0,x1,x2,x3,x4]:=by kernel_rfl
theorem ixfSL_ev (N:Nat) (p q:List D):evFn Tryz.prog ixfSLT N ixfSLK Tryz.f194 ri [⟨sd (.sl 133),p⟩,⟨.one (.c (.fn 137 [.cptr [si,.sl 82,.sl 82,.sl 131,.sl 133,.sl 177,.sl 3,.sl 3,si] 0,.cptr [.sl 3] 0])),q⟩]=some (bo,
 (let o0:=iter (ixfSLL0 N p q) N [gd p 0,gd q 0,.i 0,.i ((gd p 0).rows.length:Int),.i 0]
  nd o0.isSome (bif o0.code==1 then some (1,o0.pay)
  else nd (o0.code==2) (oi (-1))))):=by kernel_rfl
def ixfSLC (c:D) (r:List D):Bool:=i_ShardOk_3F r [gd (c.rows.getD 0 []) 0] [gd (c.rows.getD 0 []).tail 0]
def ixfSLE:Ent:=(194,e2 (sd (.sl 133)) (.one (.c (.fn 137 [.cptr [si,.sl 82,.sl 82,.sl 131,.sl 133,.sl 177,.sl 3,.sl 3,si] 0,.cptr [.sl 3] 0]))) fun p q=>(⟨ri,[.i (ixF (fun k=>ixfSLC (gd q 0) (sub ((gd p 0).rows.getD k []) 0 4)) 0 (gd p 0).rows.length)]⟩,true))
theorem ixfSL_ok:EntOk Tryz.prog ixfSLE:=e2_ok fun p q h=>evFn_sound (N:=(gd p 0).rows.length+1) (ks:=ixfSLK) (key:=bo) ixfSLT_ok (enters Tryz.func194) Tryz.func194 fun hw=>by
 rw [ixfSL_ev]
 have hl:=wt_sl (hw ⟨sd (.sl 133),p⟩ (by simp))
 have e:=ix_loop (L:=ixfSLL0 ((gd p 0).rows.length+1) p q) (fun k => [gd p 0,gd q 0,.i 0,.i ((gd p 0).rows.length:Int),.i (k:Int)]) (gd p 0).rows.length (fun k=>ixfSLC (gd q 0) (sub ((gd p 0).rows.getD k []) 0 4)) [gd p 0,gd q 0,.i 0,.i ((gd p 0).rows.length:Int),.i ((gd p 0).rows.length:Int)] (fun k hk=>?_) ?_ (gd p 0).rows.length 0 ((gd p 0).rows.length+1) (by omega) (by omega)
 ·simp only [Int.natCast_zero] at e
  rw [e]
  have hno:=ixF_neg (fun k=>ixfSLC (gd q 0) (sub ((gd p 0).rows.getD k []) 0 4)) (gd p 0).rows.length 0
  cases hd:decide (ixF (fun k=>ixfSLC (gd q 0) (sub ((gd p 0).rows.getD k []) 0 4)) 0 (gd p 0).rows.length≥0)
  ·rw [hno hd]; rfl
  ·rfl
 ·show ixfSLL0 _ p q [_,_,_,_,.i (k:Int)]=_
  rw [ixfSLR0]
  simp only [int_i,c_lt hk,nd_ix hk,w64_succ hk hl,Int.toNat_natCast]
  unfold ixfSLC
  cases i_ShardOk_3F (sub ((gd p 0).rows.getD k []) 0 4) [gd ((gd q 0).rows.getD 0 []) 0] [gd ((gd q 0).rows.getD 0 []).tail 0] <;> rfl
 ·show ixfSLL0 _ p q [_,_,_,.i ((gd p 0).rows.length:Int),.i ((gd p 0).rows.length:Int)]=_
  rw [ixfSLR0]
  simp only [int_i,c_nlt]
abbrev cofSLT:FuncId→List T→Option (T × Bool):=find [ixfSLE,i_ShardOk_3E]
theorem cofSLT_ok:CallOk Tryz.prog cofSLT:=find_ok (fC ⟨ixfSL_ok,fC ⟨i_ShardOk_3_ok,fN⟩⟩)
abbrev cofSLK:List Nat:= [0,1,4]
theorem cofSL_ev (N:Nat) (p q:List D):evFn Tryz.prog cofSLT N cofSLK Tryz.f136 rb [⟨sd (.sl 133),p⟩,⟨.one (.c (.fn 137 [.cptr [si,.sl 82,.sl 82,.sl 131,.sl 133,.sl 177,.sl 3,.sl 3,si] 0,.cptr [.sl 3] 0])),q⟩]=some (bo,
 ob (leI 0 (ixF (fun k=>ixfSLC (.l [[gd ((gd q 0).rows.getD 0 []) 0,gd ((gd q 0).rows.getD 0 []).tail 0]]) (sub ((gd p 0).rows.getD k []) 0 4)) 0 (gd p 0).rows.length))):=by kernel_rfl
def cofSLE:Ent:=(136,e2 (sd (.sl 133)) (.one (.c (.fn 137 [.cptr [si,.sl 82,.sl 82,.sl 131,.sl 133,.sl 177,.sl 3,.sl 3,si] 0,.cptr [.sl 3] 0]))) fun p q=>(⟨rb,[.b (anyS (fun rr=>ixfSLC (gd q 0) (sub rr 0 4)) (gd p 0))]⟩,true))
theorem cofSL_ok:EntOk Tryz.prog cofSLE:=e2_ok fun p q h=>evFn_sound (N:=0) (ks:=cofSLK) (key:=bo) cofSLT_ok (enters Tryz.func136) Tryz.func136 fun hw=>by
 rw [cofSL_ev]
 refine congrArg (fun x=>some (bo,ob x)) ?_
 exact (ixF_any (fun k=>ixfSLC (gd q 0) (sub ((gd p 0).rows.getD k []) 0 4)) (gd p 0).rows.length 0).trans (by simp only [Nat.zero_add]; rfl)
end Go.Proofs.YtecefnhhlaolmaaGreat
namespace Go.Proofs.YtecefnhhlaolmaaGreat
set_option maxRecDepth 4096
set_option maxHeartbeats 1000000
abbrev i_TownOk_2T:FuncId→List T→Option (T × Bool):=find [i_clientRightE]
theorem i_TownOk_2T_ok:CallOk Tryz.prog i_TownOk_2T:=find_ok (fC ⟨i_clientRight_ok,fN⟩)
abbrev i_TownOk_2K:List Nat:= [0,1,2,3]
theorem i_TownOk_2_ev (N:Nat) (p q:List D):evFn Tryz.prog i_TownOk_2T N i_TownOk_2K Tryz.f63 rb [⟨ag rIClient,p⟩,⟨.one (.c (.cptr [si] 0)),q⟩]=some (bo,
 nd (clientSmall (sub p 0 9)) (ob (!(clientRight (sub p 0 9) (gd ((gd q 0).rows.getD 0 []) 0).int)))):=by kernel_rfl
def notRight (p q:List D):Bool:= !clientRight p (gd ((gd q 0).rows.getD 0 []) 0).int
def i_TownOk_2E:Ent:=(63,e2 (ag rIClient) (.one (.c (.cptr [si] 0))) fun p q=>(⟨rb,[.b (notRight p [gd q 0])]⟩,clientSmall p))
theorem i_TownOk_2_ok:EntOk Tryz.prog i_TownOk_2E:=e2_ok fun p q h=>evFn_sound (N:=0) (ks:=i_TownOk_2K) (key:=bo) i_TownOk_2T_ok (enters Tryz.func63) Tryz.func63 fun hw=>by
 rw [i_TownOk_2_ev]
 have h:clientSmall p=true:=h
 rw [show clientSmall (sub p 0 9)=clientSmall p from rfl,h]
 rfl
abbrev i_TownOk_3T:FuncId→List T→Option (T × Bool):=find [i_LetterOkE]
theorem i_TownOk_3T_ok:CallOk Tryz.prog i_TownOk_3T:=find_ok (fC ⟨i_LetterOk_ok,fN⟩)
abbrev i_TownOk_3K:List Nat:= [0,1,2,3,4]
theorem i_TownOk_3_ev (N:Nat) (p q r:List D):evFn Tryz.prog i_TownOk_3T N i_TownOk_3K Tryz.f66 rb [⟨ag rILetter,p⟩,⟨.one (.c (.cptr [si] 0)),q⟩,⟨.one (.c (.cptr [si,.sl 62,si,si,si,si,si,si,.sl 131,.sl 53,.sl 138,.sl 3,.sl 59,.sl 88,.sl 91] 0)),r⟩]=some (bo,
 bif !(letterOk (sub p 0 14)) then ob true
 else bif leI (gd ((gd q 0).rows.getD 0 []) 0).int (gd p 1).int then ob true
 else ob (leI ((gd ((gd r 0).rows.getD 0 []) 12).rows.length:Int) (gd p 2).int)):=by kernel_rfl
def i_TownOk_3F (p q r:List D):Bool:=
 bif !(letterOk (sub p 0 14)) then true
 else bif leI (gd ((gd q 0).rows.getD 0 []) 0).int (gd p 1).int then true
 else leI ((gd ((gd r 0).rows.getD 0 []) 12).rows.length:Int) (gd p 2).int
def i_TownOk_3E:Ent:=(66,e3 (ag rILetter) (.one (.c (.cptr [si] 0))) (.one (.c (.cptr [si,.sl 62,si,si,si,si,si,si,.sl 131,.sl 53,.sl 138,.sl 3,.sl 59,.sl 88,.sl 91] 0))) fun p q r=>(⟨rb,[.b (i_TownOk_3F p [gd q 0] [gd r 0])]⟩,true))
theorem i_TownOk_3_ok:EntOk Tryz.prog i_TownOk_3E:=e3_ok fun p q r h=>evFn_sound (N:=0) (ks:=i_TownOk_3K) (key:=bo) i_TownOk_3T_ok (enters Tryz.func66) Tryz.func66 fun hw=>by
 rw [i_TownOk_3_ev]
 try simp only [cond_ob,cond_oi,cond_os]
 rfl
abbrev i_TownOk_4T:FuncId→List T→Option (T × Bool):=find [i_eventRightE]
theorem i_TownOk_4T_ok:CallOk Tryz.prog i_TownOk_4T:=find_ok (fC ⟨i_eventRight_ok,fN⟩)
abbrev i_TownOk_4K:List Nat:= [0,1,2,3]
theorem i_TownOk_4_ev (N:Nat) (p q:List D):evFn Tryz.prog i_TownOk_4T N i_TownOk_4K Tryz.f69 rb [⟨ag rIEvent,p⟩,⟨.one (.c (.cptr [si,.sl 62,si,si,si,si,si,si,.sl 131,.sl 53,.sl 138,.sl 3,.sl 59,.sl 88,.sl 91] 0)),q⟩]=some (bo,
 ob (!(eventOk (sub p 0 7) ((gd ((gd q 0).rows.getD 0 []) 12).rows.length:Int)))):=by kernel_rfl
def i_TownOk_4F (p q:List D):Bool:=
 !(eventOk (sub p 0 7) ((gd ((gd q 0).rows.getD 0 []) 12).rows.length:Int))
def i_TownOk_4E:Ent:=(69,e2 (ag rIEvent) (.one (.c (.cptr [si,.sl 62,si,si,si,si,si,si,.sl 131,.sl 53,.sl 138,.sl 3,.sl 59,.sl 88,.sl 91] 0))) fun p q=>(⟨rb,[.b (i_TownOk_4F p [gd q 0])]⟩,true))
theorem i_TownOk_4_ok:EntOk Tryz.prog i_TownOk_4E:=e2_ok fun p q h=>evFn_sound (N:=0) (ks:=i_TownOk_4K) (key:=bo) i_TownOk_4T_ok (enters Tryz.func69) Tryz.func69 fun hw=>by
 rw [i_TownOk_4_ev]
 try simp only [cond_ob,cond_oi,cond_os]
 rfl
abbrev ixfTCT:FuncId→List T→Option (T × Bool):=find [i_TownOk_2E]
theorem ixfTCT_ok:CallOk Tryz.prog ixfTCT:=find_ok (fC ⟨i_TownOk_2_ok,fN⟩)
abbrev ixfTCK:List Nat:= [0,1,4,5,7,8,9,16]
noncomputable def ixfTCL0 (N:Nat) (p q:List D):List D→Out:=loopOf Tryz.prog ixfTCT N ixfTCK Tryz.f150 ri [⟨sd (.sl 59),p⟩,⟨.one (.c (.fn 63 [.cptr [si] 0])),q⟩] 0
theorem ixfTCR0 (N:Nat) (p q:List D) (x0 x1 x2 x3 x4:D):(ixfTCL0 N p q) [x0,x1,x2,x3,x4] =
 bif ltI x4.int x3.int then nd (inRange x4.int x0.rows.length) (nd (clientSmall (sub (x0.rows.getD x4.int.toNat []) 0 9)) (bif notRight (sub (x0.rows.getD x4.int.toNat []) 0 9) [gd (x1.rows.getD 0 []) 0] then some (1,[x4])
 else nx [x0,x1,x2,x3,.i (w64 (x4.int+1))]))
 else ex 0 [x0,x1,x2,x3,x4]:=by kernel_rfl
theorem ixfTC_ev (N:Nat) (p q:List D):evFn Tryz.prog ixfTCT N ixfTCK Tryz.f150 ri [⟨sd (.sl 59),p⟩,⟨.one (.c (.fn 63 [.cptr [si] 0])),q⟩]=some (bo,
 (let o0:=iter (ixfTCL0 N p q) N [gd p 0,gd q 0,.i 0,.i ((gd p 0).rows.length:Int),.i 0]
  nd o0.isSome (bif o0.code==1 then some (1,o0.pay)
  else nd (o0.code==2) (oi (-1))))):=by kernel_rfl
def ixfTCC (c:D) (r:List D):Bool:=notRight r [gd (c.rows.getD 0 []) 0]
def ixfTCE:Ent:=(150,e2 (sd (.sl 59)) (.one (.c (.fn 63 [.cptr [si] 0]))) fun p q=>(⟨ri,[.i (ixF (fun k=>ixfTCC (gd q 0) (sub ((gd p 0).rows.getD k []) 0 9)) 0 (gd p 0).rows.length)]⟩,(List.range (gd p 0).rows.length).all fun k=>clientSmall (sub ((gd p 0).rows.getD k []) 0 9)))
theorem ixfTC_ok:EntOk Tryz.prog ixfTCE:=e2_ok fun p q h=>evFn_sound (N:=(gd p 0).rows.length+1) (ks:=ixfTCK) (key:=bo) ixfTCT_ok (enters Tryz.func150) Tryz.func150 fun hw=>by
 rw [ixfTC_ev]
 have hs:((List.range (gd p 0).rows.length).all fun k=>clientSmall (sub ((gd p 0).rows.getD k []) 0 9))=true:=h
 simp only [List.all_eq_true,List.mem_range] at hs
 have hl:=wt_sl (hw ⟨sd (.sl 59),p⟩ (by simp))
 have e:=ix_loop (L:=ixfTCL0 ((gd p 0).rows.length+1) p q) (fun k => [gd p 0,gd q 0,.i 0,.i ((gd p 0).rows.length:Int),.i (k:Int)]) (gd p 0).rows.length (fun k=>ixfTCC (gd q 0) (sub ((gd p 0).rows.getD k []) 0 9)) [gd p 0,gd q 0,.i 0,.i ((gd p 0).rows.length:Int),.i ((gd p 0).rows.length:Int)] (fun k hk=>?_) ?_ (gd p 0).rows.length 0 ((gd p 0).rows.length+1) (by omega) (by omega)
 ·simp only [Int.natCast_zero] at e
  rw [e]
  have hno:=ixF_neg (fun k=>ixfTCC (gd q 0) (sub ((gd p 0).rows.getD k []) 0 9)) (gd p 0).rows.length 0
  cases hd:decide (ixF (fun k=>ixfTCC (gd q 0) (sub ((gd p 0).rows.getD k []) 0 9)) 0 (gd p 0).rows.length≥0)
  ·rw [hno hd]; rfl
  ·rfl
 ·show ixfTCL0 _ p q [_,_,_,_,.i (k:Int)]=_
  rw [ixfTCR0]
  simp only [int_i,c_lt hk,nd_ix hk,w64_succ hk hl,Int.toNat_natCast,hs k hk,nd_true]
  unfold ixfTCC
  cases notRight (sub ((gd p 0).rows.getD k []) 0 9) [gd ((gd q 0).rows.getD 0 []) 0] <;> rfl
 ·show ixfTCL0 _ p q [_,_,_,.i ((gd p 0).rows.length:Int),.i ((gd p 0).rows.length:Int)]=_
  rw [ixfTCR0]
  simp only [int_i,c_nlt]
abbrev cofTCT:FuncId→List T→Option (T × Bool):=find [ixfTCE,i_TownOk_2E]
theorem cofTCT_ok:CallOk Tryz.prog cofTCT:=find_ok (fC ⟨ixfTC_ok,fC ⟨i_TownOk_2_ok,fN⟩⟩)
abbrev cofTCK:List Nat:= [0,1,4]
theorem cofTC_ev (N:Nat) (p q:List D):evFn Tryz.prog cofTCT N cofTCK Tryz.f62 rb [⟨sd (.sl 59),p⟩,⟨.one (.c (.fn 63 [.cptr [si] 0])),q⟩]=some (bo,
 nd ((List.range (gd p 0).rows.length).all fun k=>clientSmall (sub ((gd p 0).rows.getD k []) 0 9)) (ob (leI 0 (ixF (fun k=>ixfTCC (.l [[gd ((gd q 0).rows.getD 0 []) 0]]) (sub ((gd p 0).rows.getD k []) 0 9)) 0 (gd p 0).rows.length)))):=by kernel_rfl
def cofTCE:Ent:=(62,e2 (sd (.sl 59)) (.one (.c (.fn 63 [.cptr [si] 0]))) fun p q=>(⟨rb,[.b (anyS (fun rr=>ixfTCC (gd q 0) (sub rr 0 9)) (gd p 0))]⟩,(List.range (gd p 0).rows.length).all fun k=>clientSmall (sub ((gd p 0).rows.getD k []) 0 9)))
theorem cofTC_ok:EntOk Tryz.prog cofTCE:=e2_ok fun p q h=>evFn_sound (N:=0) (ks:=cofTCK) (key:=bo) cofTCT_ok (enters Tryz.func62) Tryz.func62 fun hw=>by
 rw [cofTC_ev]
 have hs:((List.range (gd p 0).rows.length).all fun k=>clientSmall (sub ((gd p 0).rows.getD k []) 0 9))=true:=h
 rw [hs,nd_true]
 refine congrArg (fun x=>some (bo,ob x)) ?_
 exact (ixF_any (fun k=>ixfTCC (gd q 0) (sub ((gd p 0).rows.getD k []) 0 9)) (gd p 0).rows.length 0).trans (by simp only [Nat.zero_add]; rfl)
abbrev ixfTLT:FuncId→List T→Option (T × Bool):=find [i_TownOk_3E]
theorem ixfTLT_ok:CallOk Tryz.prog ixfTLT:=find_ok (fC ⟨i_TownOk_3_ok,fN⟩)
abbrev ixfTLK:List Nat:= [0,1,4,5,7,8,9,16]
noncomputable def ixfTLL0 (N:Nat) (p q:List D):List D→Out:=loopOf Tryz.prog ixfTLT N ixfTLK Tryz.f155 ri [⟨sd (.sl 88),p⟩,⟨.one (.c (.fn 66 [.cptr [si] 0,.cptr [si,.sl 62,si,si,si,si,si,si,.sl 131,.sl 53,.sl 138,.sl 3,.sl 59,.sl 88,.sl 91] 0])),q⟩] 0
theorem ixfTLR0 (N:Nat) (p q:List D) (x0 x1 x2 x3 x4:D):(ixfTLL0 N p q) [x0,x1,x2,x3,x4] =
 bif ltI x4.int x3.int then nd (inRange x4.int x0.rows.length) (bif i_TownOk_3F (sub (x0.rows.getD x4.int.toNat []) 0 14) [gd (x1.rows.getD 0 []) 0] [gd (x1.rows.getD 0 []).tail 0] then some (1,[x4])
 else nx [x0,x1,x2,x3,.i (w64 (x4.int+1))])
 else ex 0 [x0,x1,x2,x3,x4]:=by kernel_rfl
theorem ixfTL_ev (N:Nat) (p q:List D):evFn Tryz.prog ixfTLT N ixfTLK Tryz.f155 ri [⟨sd (.sl 88),p⟩,⟨.one (.c (.fn 66 [.cptr [si] 0,.cptr [si,.sl 62,si,si,si,si,si,si,.sl 131,.sl 53,.sl 138,.sl 3,.sl 59,.sl 88,.sl 91] 0])),q⟩]=some (bo,
 (let o0:=iter (ixfTLL0 N p q) N [gd p 0,gd q 0,.i 0,.i ((gd p 0).rows.length:Int),.i 0]
  nd o0.isSome (bif o0.code==1 then some (1,o0.pay)
  else nd (o0.code==2) (oi (-1))))):=by kernel_rfl
def ixfTLC (c:D) (r:List D):Bool:=i_TownOk_3F r [gd (c.rows.getD 0 []) 0] [gd (c.rows.getD 0 []).tail 0]
def ixfTLE:Ent:=(155,e2 (sd (.sl 88)) (.one (.c (.fn 66 [.cptr [si] 0,.cptr [si,.sl 62,si,si,si,si,si,si,.sl 131,.sl 53,.sl 138,.sl 3,.sl 59,.sl 88,.sl 91] 0]))) fun p q=>(⟨ri,[.i (ixF (fun k=>ixfTLC (gd q 0) (sub ((gd p 0).rows.getD k []) 0 14)) 0 (gd p 0).rows.length)]⟩,true))
theorem ixfTL_ok:EntOk Tryz.prog ixfTLE:=e2_ok fun p q h=>evFn_sound (N:=(gd p 0).rows.length+1) (ks:=ixfTLK) (key:=bo) ixfTLT_ok (enters Tryz.func155) Tryz.func155 fun hw=>by
 rw [ixfTL_ev]
 have hl:=wt_sl (hw ⟨sd (.sl 88),p⟩ (by simp))
 have e:=ix_loop (L:=ixfTLL0 ((gd p 0).rows.length+1) p q) (fun k => [gd p 0,gd q 0,.i 0,.i ((gd p 0).rows.length:Int),.i (k:Int)]) (gd p 0).rows.length (fun k=>ixfTLC (gd q 0) (sub ((gd p 0).rows.getD k []) 0 14)) [gd p 0,gd q 0,.i 0,.i ((gd p 0).rows.length:Int),.i ((gd p 0).rows.length:Int)] (fun k hk=>?_) ?_ (gd p 0).rows.length 0 ((gd p 0).rows.length+1) (by omega) (by omega)
 ·simp only [Int.natCast_zero] at e
  rw [e]
  have hno:=ixF_neg (fun k=>ixfTLC (gd q 0) (sub ((gd p 0).rows.getD k []) 0 14)) (gd p 0).rows.length 0
  cases hd:decide (ixF (fun k=>ixfTLC (gd q 0) (sub ((gd p 0).rows.getD k []) 0 14)) 0 (gd p 0).rows.length≥0)
  ·rw [hno hd]; rfl
  ·rfl
 ·show ixfTLL0 _ p q [_,_,_,_,.i (k:Int)]=_
  rw [ixfTLR0]
  simp only [int_i,c_lt hk,nd_ix hk,w64_succ hk hl,Int.toNat_natCast]
  unfold ixfTLC
  cases i_TownOk_3F (sub ((gd p 0).rows.getD k []) 0 14) [gd ((gd q 0).rows.getD 0 []) 0] [gd ((gd q 0).rows.getD 0 []).tail 0] <;> rfl
 ·show ixfTLL0 _ p q [_,_,_,.i ((gd p 0).rows.length:Int),.i ((gd p 0).rows.length:Int)]=_
  rw [ixfTLR0]
  simp only [int_i,c_nlt]
abbrev cofTLT:FuncId→List T→Option (T × Bool):=find [ixfTLE,i_TownOk_3E]
theorem cofTLT_ok:CallOk Tryz.prog cofTLT:=find_ok (fC ⟨ixfTL_ok,fC ⟨i_TownOk_3_ok,fN⟩⟩)
abbrev cofTLK:List Nat:= [0,1,4]
theorem cofTL_ev (N:Nat) (p q:List D):evFn Tryz.prog cofTLT N cofTLK Tryz.f65 rb [⟨sd (.sl 88),p⟩,⟨.one (.c (.fn 66 [.cptr [si] 0,.cptr [si,.sl 62,si,si,si,si,si,si,.sl 131,.sl 53,.sl 138,.sl 3,.sl 59,.sl 88,.sl 91] 0])),q⟩]=some (bo,
 ob (leI 0 (ixF (fun k=>ixfTLC (.l [[gd ((gd q 0).rows.getD 0 []) 0,gd ((gd q 0).rows.getD 0 []).tail 0]]) (sub ((gd p 0).rows.getD k []) 0 14)) 0 (gd p 0).rows.length))):=by kernel_rfl
def cofTLE:Ent:=(65,e2 (sd (.sl 88)) (.one (.c (.fn 66 [.cptr [si] 0,.cptr [si,.sl 62,si,si,si,si,si,si,.sl 131,.sl 53,.sl 138,.sl 3,.sl 59,.sl 88,.sl 91] 0]))) fun p q=>(⟨rb,[.b (anyS (fun rr=>ixfTLC (gd q 0) (sub rr 0 14)) (gd p 0))]⟩,true))
theorem cofTL_ok:EntOk Tryz.prog cofTLE:=e2_ok fun p q h=>evFn_sound (N:=0) (ks:=cofTLK) (key:=bo) cofTLT_ok (enters Tryz.func65) Tryz.func65 fun hw=>by
 rw [cofTL_ev]
 refine congrArg (fun x=>some (bo,ob x)) ?_
 exact (ixF_any (fun k=>ixfTLC (gd q 0) (sub ((gd p 0).rows.getD k []) 0 14)) (gd p 0).rows.length 0).trans (by simp only [Nat.zero_add]; rfl)
abbrev ixfTET:FuncId→List T→Option (T × Bool):=find [i_TownOk_4E]
theorem ixfTET_ok:CallOk Tryz.prog ixfTET:=find_ok (fC ⟨i_TownOk_4_ok,fN⟩)
abbrev ixfTEK:List Nat:= [0,1,4,5,7,8,9,16]
noncomputable def ixfTEL0 (N:Nat) (p q:List D):List D→Out:=loopOf Tryz.prog ixfTET N ixfTEK Tryz.f164 ri [⟨sd (.sl 91),p⟩,⟨.one (.c (.fn 69 [.cptr [si,.sl 62,si,si,si,si,si,si,.sl 131,.sl 53,.sl 138,.sl 3,.sl 59,.sl 88,.sl 91] 0])),q⟩] 0
theorem ixfTER0 (N:Nat) (p q:List D) (x0 x1 x2 x3 x4:D):(ixfTEL0 N p q) [x0,x1,x2,x3,x4] =
 bif ltI x4.int x3.int then nd (inRange x4.int x0.rows.length) (bif i_TownOk_4F (sub (x0.rows.getD x4.int.toNat []) 0 7) [gd (x1.rows.getD 0 []) 0] then some (1,[x4])
 else nx [x0,x1,x2,x3,.i (w64 (x4.int+1))])
 else ex 0 [x0,x1,x2,x3,x4]:=by kernel_rfl
theorem ixfTE_ev (N:Nat) (p q:List D):evFn Tryz.prog ixfTET N ixfTEK Tryz.f164 ri [⟨sd (.sl 91),p⟩,⟨.one (.c (.fn 69 [.cptr [si,.sl 62,si,si,si,si,si,si,.sl 131,.sl 53,.sl 138,.sl 3,.sl 59,.sl 88,.sl 91] 0])),q⟩]=some (bo,
 (let o0:=iter (ixfTEL0 N p q) N [gd p 0,gd q 0,.i 0,.i ((gd p 0).rows.length:Int),.i 0]
  nd o0.isSome (bif o0.code==1 then some (1,o0.pay)
  else nd (o0.code==2) (oi (-1))))):=by kernel_rfl
def ixfTEC (c:D) (r:List D):Bool:=i_TownOk_4F r [gd (c.rows.getD 0 []) 0]
def ixfTEE:Ent:=(164,e2 (sd (.sl 91)) (.one (.c (.fn 69 [.cptr [si,.sl 62,si,si,si,si,si,si,.sl 131,.sl 53,.sl 138,.sl 3,.sl 59,.sl 88,.sl 91] 0]))) fun p q=>(⟨ri,[.i (ixF (fun k=>ixfTEC (gd q 0) (sub ((gd p 0).rows.getD k []) 0 7)) 0 (gd p 0).rows.length)]⟩,true))
theorem ixfTE_ok:EntOk Tryz.prog ixfTEE:=e2_ok fun p q h=>evFn_sound (N:=(gd p 0).rows.length+1) (ks:=ixfTEK) (key:=bo) ixfTET_ok (enters Tryz.func164) Tryz.func164 fun hw=>by
 rw [ixfTE_ev]
 have hl:=wt_sl (hw ⟨sd (.sl 91),p⟩ (by simp))
 have e:=ix_loop (L:=ixfTEL0 ((gd p 0).rows.length+1) p q) (fun k => [gd p 0,gd q 0,.i 0,.i ((gd p 0).rows.length:Int),.i (k:Int)]) (gd p 0).rows.length (fun k=>ixfTEC (gd q 0) (sub ((gd p 0).rows.getD k []) 0 7)) [gd p 0,gd q 0,.i 0,.i ((gd p 0).rows.length:Int),.i ((gd p 0).rows.length:Int)] (fun k hk=>?_) ?_ (gd p 0).rows.length 0 ((gd p 0).rows.length+1) (by omega) (by omega)
 ·simp only [Int.natCast_zero] at e
  rw [e]
  have hno:=ixF_neg (fun k=>ixfTEC (gd q 0) (sub ((gd p 0).rows.getD k []) 0 7)) (gd p 0).rows.length 0
  cases hd:decide (ixF (fun k=>ixfTEC (gd q 0) (sub ((gd p 0).rows.getD k []) 0 7)) 0 (gd p 0).rows.length≥0)
  ·rw [hno hd]; rfl
  ·rfl
 ·show ixfTEL0 _ p q [_,_,_,_,.i (k:Int)]=_
  rw [ixfTER0]
  simp only [int_i,c_lt hk,nd_ix hk,w64_succ hk hl,Int.toNat_natCast]
  unfold ixfTEC
  cases i_TownOk_4F (sub ((gd p 0).rows.getD k []) 0 7) [gd ((gd q 0).rows.getD 0 []) 0] <;> rfl
 ·show ixfTEL0 _ p q [_,_,_,.i ((gd p 0).rows.length:Int),.i ((gd p 0).rows.length:Int)]=_
  rw [ixfTER0]
  simp only [int_i,c_nlt]
abbrev cofTET:FuncId→List T→Option (T × Bool):=find [ixfTEE,i_TownOk_4E]
theorem cofTET_ok:CallOk Tryz.prog cofTET:=find_ok (fC ⟨ixfTE_ok,fC ⟨i_TownOk_4_ok,fN⟩⟩)
abbrev cofTEK:List Nat:= [0,1,4]
theorem cofTE_ev (N:Nat) (p q:List D):evFn Tryz.prog cofTET N cofTEK Tryz.f68 rb [⟨sd (.sl 91),p⟩,⟨.one (.c (.fn 69 [.cptr [si,.sl 62,si,si,si,si,si,si,.sl 131,.sl 53,.sl 138,.sl 3,.sl 59,.sl 88,.sl 91] 0])),q⟩]=some (bo,
 ob (leI 0 (ixF (fun k=>ixfTEC (.l [[gd ((gd q 0).rows.getD 0 []) 0]]) (sub ((gd p 0).rows.getD k []) 0 7)) 0 (gd p 0).rows.length))):=by kernel_rfl
def cofTEE:Ent:=(68,e2 (sd (.sl 91)) (.one (.c (.fn 69 [.cptr [si,.sl 62,si,si,si,si,si,si,.sl 131,.sl 53,.sl 138,.sl 3,.sl 59,.sl 88,.sl 91] 0]))) fun p q=>(⟨rb,[.b (anyS (fun rr=>ixfTEC (gd q 0) (sub rr 0 7)) (gd p 0))]⟩,true))
theorem cofTE_ok:EntOk Tryz.prog cofTEE:=e2_ok fun p q h=>evFn_sound (N:=0) (ks:=cofTEK) (key:=bo) cofTET_ok (enters Tryz.func68) Tryz.func68 fun hw=>by
 rw [cofTE_ev]
 refine congrArg (fun x=>some (bo,ob x)) ?_
 exact (ixF_any (fun k=>ixfTEC (gd q 0) (sub ((gd p 0).rows.getD k []) 0 7)) (gd p 0).rows.length 0).trans (by simp only [Nat.zero_add]; rfl)
end Go.Proofs.YtecefnhhlaolmaaGreat
namespace Go.Proofs.YtecefnhhlaolmaaGreat
set_option maxRecDepth 4096
set_option maxHeartbeats 1000000
abbrev s_ShardOkT:FuncId→List T→Option (T × Bool):=find [s_l1InE,s_RangesOkE,s_StoreOkE,s_LocksOkE,s_l13TxsE,s_RangesHaveE,s_l10OneE,s_l12RangeE,s_l12HasE,s_l13HeldsOkE,s_l13NewE]
theorem s_ShardOkT_ok:CallOk Tryz.prog s_ShardOkT:=find_ok (fC ⟨s_l1In_ok,fC ⟨s_RangesOk_ok,fC ⟨s_StoreOk_ok,fC ⟨s_LocksOk_ok,fC ⟨s_l13Txs_ok,fC ⟨s_RangesHave_ok,fC ⟨s_l10One_ok,fC ⟨s_l12Range_ok,fC ⟨s_l12Has_ok,fC ⟨s_l13HeldsOk_ok,fC ⟨s_l13New_ok,fN⟩⟩⟩⟩⟩⟩⟩⟩⟩⟩⟩)
abbrev s_ShardOkK:List Nat:= [0,1,2,3,4,5,6,7,41,69,74,85,90,103,108,135,140,150,1000041,1000069,1000074,1000085,1000090,1000103,1000108,1000135,1000140,1000150]
noncomputable def s_ShardOkL0 (N:Nat) (p:List D):List D→Out:=loopOf Tryz.prog s_ShardOkT N s_ShardOkK Tryz.f44 rb [⟨ag rIShard,p⟩] 0
noncomputable def s_ShardOkL2 (N:Nat) (p:List D):List D→Out:=loopOf Tryz.prog s_ShardOkT N s_ShardOkK Tryz.f44 rb [⟨ag rIShard,p⟩] 2
noncomputable def s_ShardOkL4 (N:Nat) (p:List D):List D→Out:=loopOf Tryz.prog s_ShardOkT N s_ShardOkK Tryz.f44 rb [⟨ag rIShard,p⟩] 4
noncomputable def s_ShardOkL6 (N:Nat) (p:List D):List D→Out:=loopOf Tryz.prog s_ShardOkT N s_ShardOkK Tryz.f44 rb [⟨ag rIShard,p⟩] 6
theorem s_ShardOkR0 (N:Nat) (p:List D) (x0 x1 x2 x3 x4 x5 x6 x7 x8 x9 x10 x11 x12 x13 x14 x15 x16 x17 x18 x19 x20:D):(s_ShardOkL0 N p) [x0,x1,x2,x3,x4,x5,x6,x7,x8,x9,x10,x11,x12,x13,x14,x15,x16,x17,x18,x19,x20] =
 bif ltI x11.int (x14.rows.length:Int) then nd (inRange x11.int x14.rows.length) (bif !(rangesHave x13 (sub (x14.rows.getD x11.int.toNat []) 0 2)) then ob false
 else nx [x0,x1,x2,x3,x4,x5,x6,x7,x8,x9,x10,.i (w64 (x11.int+1)),x12,x13,x14,x15,x16,x17,x18,x19,x20])
 else ex 0 [x0,x1,x2,x3,x4,x5,x6,x7,x8,x9,x10,x11,x12,x13,x14,x15,x16,x17,x18,x19,x20]:=by kernel_rfl
theorem s_ShardOkR2 (N:Nat) (p:List D) (x0 x1 x2 x3 x4 x5 x6 x7 x8 x9 x10 x11 x12 x13 x14 x15 x16 x17 x18 x19 x20 x21:D):(s_ShardOkL2 N p) [x0,x1,x2,x3,x4,x5,x6,x7,x8,x9,x10,x11,x12,x13,x14,x15,x16,x17,x18,x19,x20,x21] =
 bif ltI x12.int (x16.rows.length:Int) then nd (inRange x12.int x16.rows.length) (bif !(rangesHave x14 [(gd (x16.rows.getD x12.int.toNat []) 0),.i (w64 ((gd (x16.rows.getD x12.int.toNat []) 0).int+1))]) then ob false
 else nx [x0,x1,x2,x3,x4,x5,x6,x7,x8,x9,x10,x11,.i (w64 (x12.int+1)),x13,x14,x15,x16,x17,x18,x19,x20,x21])
 else ex 2 [x0,x1,x2,x3,x4,x5,x6,x7,x8,x9,x10,x11,x12,x13,x14,x15,x16,x17,x18,x19,x20,x21]:=by kernel_rfl
theorem s_ShardOkR4 (N:Nat) (p:List D) (x0 x1 x2 x3 x4 x5 x6 x7 x8 x9 x10 x11 x12 x13 x14 x15 x16 x17 x18 x19 x20 x21 x22:D):(s_ShardOkL4 N p) [x0,x1,x2,x3,x4,x5,x6,x7,x8,x9,x10,x11,x12,x13,x14,x15,x16,x17,x18,x19,x20,x21,x22] =
 bif ltI x13.int (x18.rows.length:Int) then nd (inRange x13.int x18.rows.length) (bif !(rangesHave x15 [(gd (x18.rows.getD x13.int.toNat []) 1),(gd (x18.rows.getD x13.int.toNat []) 2)]) then ob false
 else bif hasInt x20 (gd (x18.rows.getD x13.int.toNat []) 0).int then ob false
 else bif hasInt x21 (gd (x18.rows.getD x13.int.toNat []) 0).int then ob false
 else nx [x0,x1,x2,x3,x4,x5,x6,x7,x8,x9,x10,x11,x12,.i (w64 (x13.int+1)),x14,x15,x16,x17,x18,x19,x20,x21,x22])
 else ex 4 [x0,x1,x2,x3,x4,x5,x6,x7,x8,x9,x10,x11,x12,x13,x14,x15,x16,x17,x18,x19,x20,x21,x22]:=by kernel_rfl
theorem s_ShardOkR6 (N:Nat) (p:List D) (x0 x1 x2 x3 x4 x5 x6 x7 x8 x9 x10 x11 x12 x13 x14 x15 x16 x17 x18 x19 x20 x21 x22 x23:D):(s_ShardOkL6 N p) [x0,x1,x2,x3,x4,x5,x6,x7,x8,x9,x10,x11,x12,x13,x14,x15,x16,x17,x18,x19,x20,x21,x22,x23] =
 bif ltI x14.int (x21.rows.length:Int) then nd (inRange x14.int x21.rows.length) (bif hasInt x22 (gd (x21.rows.getD x14.int.toNat []) 0).int then ob false
 else nx [x0,x1,x2,x3,x4,x5,x6,x7,x8,x9,x10,x11,x12,x13,.i (w64 (x14.int+1)),x15,x16,x17,x18,x19,x20,x21,x22,x23])
 else ex 6 [x0,x1,x2,x3,x4,x5,x6,x7,x8,x9,x10,x11,x12,x13,x14,x15,x16,x17,x18,x19,x20,x21,x22,x23]:=by kernel_rfl
noncomputable def s_ShardOks0 (N:Nat) (p:List D) (o6:Out):Out:=nd (leI ((gd o6.pay 20).rows.length:Int) 1000000000) (ob (leI (w64 (((gd o6.pay 18).rows.length:Int)+(newSum (gd o6.pay 18) (gd o6.pay 20) (gd o6.pay 20).rows.length))) 60))
noncomputable def s_ShardOks1 (N:Nat) (p:List D) (o6:Out):Out:=bif o6.code==1 then some (1,o6.pay) else nd (o6.code==8) (bif heldsOkS (sub o6.pay 15 9) then (s_ShardOks0 N p o6) else ob false)
noncomputable def s_ShardOks2 (N:Nat) (p:List D) (o4:Out):Out:=let o6:Out:=iter (s_ShardOkL6 N p) N [gd o4.pay 0,gd o4.pay 1,gd o4.pay 2,gd o4.pay 3,gd o4.pay 4,gd o4.pay 5,gd o4.pay 6,gd o4.pay 7,gd o4.pay 8,gd o4.pay 9,gd o4.pay 10,gd o4.pay 11,gd o4.pay 12,gd o4.pay 13,.i 0,gd o4.pay 14,gd o4.pay 15,gd o4.pay 16,gd o4.pay 17,gd o4.pay 18,gd o4.pay 19,gd o4.pay 20,gd o4.pay 21,gd o4.pay 22]; nd o6.isSome (s_ShardOks1 N p o6)
noncomputable def s_ShardOks3 (N:Nat) (p:List D) (o2:Out):Out:=let o4:Out:=iter (s_ShardOkL4 N p) N [gd o2.pay 0,gd o2.pay 1,gd o2.pay 2,gd o2.pay 3,gd o2.pay 4,gd o2.pay 5,gd o2.pay 6,gd o2.pay 7,gd o2.pay 8,gd o2.pay 9,gd o2.pay 10,gd o2.pay 11,gd o2.pay 12,.i 0,gd o2.pay 13,gd o2.pay 14,gd o2.pay 15,gd o2.pay 16,gd o2.pay 17,gd o2.pay 18,gd o2.pay 19,gd o2.pay 20,gd o2.pay 21]; nd o4.isSome (bif o4.code==1 then some (1,o4.pay) else nd (o4.code==6) (s_ShardOks2 N p o4))
noncomputable def s_ShardOks4 (N:Nat) (p:List D) (o0:Out):Out:=let o2:Out:=iter (s_ShardOkL2 N p) N [gd o0.pay 0,gd o0.pay 1,gd o0.pay 2,gd o0.pay 3,gd o0.pay 4,gd o0.pay 5,gd o0.pay 6,gd o0.pay 7,gd o0.pay 8,gd o0.pay 9,gd o0.pay 10,gd o0.pay 11,.i 0,gd o0.pay 12,gd o0.pay 13,gd o0.pay 14,gd o0.pay 15,gd o0.pay 16,gd o0.pay 17,gd o0.pay 18,gd o0.pay 19,gd o0.pay 20]; nd o2.isSome (bif o2.code==1 then some (1,o2.pay) else nd (o2.code==4) (s_ShardOks3 N p o2))
noncomputable def s_ShardOks5 (N:Nat) (p:List D):Out:=let o0:Out:=iter (s_ShardOkL0 N p) N [gd p 0,gd p 1,gd p 2,gd p 3,gd p 4,gd p 5,gd p 6,gd p 7,gd p 8,.i 0,.i 0,.i 0,gd p 0,gd p 1,gd p 2,gd p 3,gd p 4,gd p 5,gd p 6,gd p 7,gd p 8]; nd o0.isSome (bif o0.code==1 then some (1,o0.pay) else nd (o0.code==2) (s_ShardOks4 N p o0))
noncomputable def s_ShardOks6 (N:Nat) (p:List D):Out:=bif ltI 60 ((gd p 7).rows.length:Int) then ob false else bif !(ascOk (gd p 6)) then ob false else bif !(ascOk (gd p 7)) then ob false else (s_ShardOks5 N p)
noncomputable def s_ShardOks7 (N:Nat) (p:List D):Out:=bif ltI 60 ((gd p 5).rows.length:Int) then ob false else bif ltI 60 ((gd p 6).rows.length:Int) then ob false else (s_ShardOks6 N p)
noncomputable def s_ShardOks8 (N:Nat) (p:List D):Out:=bif !(locksOk (gd p 4)) then ob false else bif !(inB (gd p 8).int 0 1000000) then ob false else (s_ShardOks7 N p)
noncomputable def s_ShardOks9 (N:Nat) (p:List D):Out:=bif !(rangesOk (gd p 2)) then ob false else bif !(storeOk (gd p 3)) then ob false else (s_ShardOks8 N p)
noncomputable def s_ShardOks10 (N:Nat) (p:List D):Out:=bif !(inB (gd p 0).int 0 3) then ob false else bif !(rangesOk (gd p 1)) then ob false else (s_ShardOks9 N p)
theorem s_ShardOk_ev (N:Nat) (p:List D):evFn Tryz.prog s_ShardOkT N s_ShardOkK Tryz.f44 rb [⟨ag rIShard,p⟩]=some (bo,(s_ShardOks10 N p)):=by kernel_rfl
def shardC0 (p:List D) (k:Nat):Bool:=rangesHave (gd p 1) (sub ((gd p 2).rows.getD k []) 0 2)
def shardC2 (p:List D) (k:Nat):Bool:=rangesHave (gd p 1) [gd ((gd p 3).rows.getD k []) 0,.i (w64 ((gd ((gd p 3).rows.getD k []) 0).int+1))]
def shardC4 (p:List D) (k:Nat):Bool:=(rangesHave (gd p 1) [gd ((gd p 4).rows.getD k []) 1,gd ((gd p 4).rows.getD k []) 2]&&(!hasInt (gd p 6) (gd ((gd p 4).rows.getD k []) 0).int && !hasInt (gd p 7) (gd ((gd p 4).rows.getD k []) 0).int))
def shardC6 (p:List D) (k:Nat):Bool:= !hasInt (gd p 7) (gd ((gd p 6).rows.getD k []) 0).int
def shardA (p:List D) (f j:Nat) (C:List D→Nat→Bool):Bool:=(List.range (gd p f).rows.length).all (C p)
def shardSum (p:List D):Bool:=heldsOkS p&&leI (((gd p 3).rows.length:Int)+newSum (gd p 3) (gd p 5) (gd p 5).rows.length) 60
def shardOk (p:List D):Bool:=inB (gd p 0).int 0 3&&(rangesOk (gd p 1)&&(rangesOk (gd p 2)&&(storeOk (gd p 3)&&(locksOk (gd p 4)&&(inB (gd p 8).int 0 1000000&&(leI ((gd p 5).rows.length:Int) 60&&(leI ((gd p 6).rows.length:Int) 60&&(leI ((gd p 7).rows.length:Int) 60&&(ascOk (gd p 6)&&(ascOk (gd p 7)&&(shardA p 2 0 shardC0&&(shardA p 3 2 shardC2&&(shardA p 4 4 shardC4&&(shardA p 6 6 shardC6&&(shardSum p)))))))))))))))
theorem s_ShardOkI0 (p:List D) (N:Nat) (hN:(gd p 2).rows.length<N) (hl:(gd p 2).rows.length≤9223372036854775807):iter (s_ShardOkL0 N p) N [gd p 0,gd p 1,gd p 2,gd p 3,gd p 4,gd p 5,gd p 6,gd p 7,gd p 8,.i 0,.i 0,.i 0,gd p 0,gd p 1,gd p 2,gd p 3,gd p 4,gd p 5,gd p 6,gd p 7,gd p 8]=some (bif shardA p 2 0 shardC0 then (2,[gd p 0,gd p 1,gd p 2,gd p 3,gd p 4,gd p 5,gd p 6,gd p 7,gd p 8,.i 0,.i 0,.i ((gd p 2).rows.length:Int),gd p 0,gd p 1,gd p 2,gd p 3,gd p 4,gd p 5,gd p 6,gd p 7,gd p 8]) else (1,[.b false])):=by
 have e:=for_loop (L:=s_ShardOkL0 N p) (fun k => [gd p 0,gd p 1,gd p 2,gd p 3,gd p 4,gd p 5,gd p 6,gd p 7,gd p 8,.i 0,.i 0,.i (k:Int),gd p 0,gd p 1,gd p 2,gd p 3,gd p 4,gd p 5,gd p 6,gd p 7,gd p 8]) (gd p 2).rows.length (shardC0 p) [.b false] 0 (fun k hk=>?_) ?_ (N:=N) hN
 ·simp only [Int.natCast_zero] at e
  exact e
 ·show s_ShardOkL0 _ p [_,_,_,_,_,_,_,_,_,_,_,.i (k:Int),_,_,_,_,_,_,_,_,_]=_
  rw [s_ShardOkR0]
  simp only [int_i,c_lt hk,nd_ix hk,w64_succ hk hl,Int.toNat_natCast]
  unfold shardC0
  cases rangesHave (gd p 1) (sub ((gd p 2).rows.getD k []) 0 2) <;> rfl
 ·show s_ShardOkL0 _ p [_,_,_,_,_,_,_,_,_,_,_,.i ((gd p 2).rows.length:Int),_,_,_,_,_,_,_,_,_]=_
  rw [s_ShardOkR0]
  simp only [int_i,c_nlt]
theorem s_ShardOkI2 (p:List D) (N:Nat) (hN:(gd p 3).rows.length<N) (hl:(gd p 3).rows.length≤9223372036854775807):iter (s_ShardOkL2 N p) N [gd p 0,gd p 1,gd p 2,gd p 3,gd p 4,gd p 5,gd p 6,gd p 7,gd p 8,.i 0,.i 0,.i ((gd p 2).rows.length:Int),.i 0,gd p 0,gd p 1,gd p 2,gd p 3,gd p 4,gd p 5,gd p 6,gd p 7,gd p 8]=some (bif shardA p 3 2 shardC2 then (4,[gd p 0,gd p 1,gd p 2,gd p 3,gd p 4,gd p 5,gd p 6,gd p 7,gd p 8,.i 0,.i 0,.i ((gd p 2).rows.length:Int),.i ((gd p 3).rows.length:Int),gd p 0,gd p 1,gd p 2,gd p 3,gd p 4,gd p 5,gd p 6,gd p 7,gd p 8]) else (1,[.b false])):=by
 have e:=for_loop (L:=s_ShardOkL2 N p) (fun k => [gd p 0,gd p 1,gd p 2,gd p 3,gd p 4,gd p 5,gd p 6,gd p 7,gd p 8,.i 0,.i 0,.i ((gd p 2).rows.length:Int),.i (k:Int),gd p 0,gd p 1,gd p 2,gd p 3,gd p 4,gd p 5,gd p 6,gd p 7,gd p 8]) (gd p 3).rows.length (shardC2 p) [.b false] 2 (fun k hk=>?_) ?_ (N:=N) hN
 ·simp only [Int.natCast_zero] at e
  exact e
 ·show s_ShardOkL2 _ p [_,_,_,_,_,_,_,_,_,_,_,_,.i (k:Int),_,_,_,_,_,_,_,_,_]=_
  rw [s_ShardOkR2]
  simp only [int_i,c_lt hk,nd_ix hk,w64_succ hk hl,Int.toNat_natCast]
  unfold shardC2
  cases rangesHave (gd p 1) [gd ((gd p 3).rows.getD k []) 0,.i (w64 ((gd ((gd p 3).rows.getD k []) 0).int+1))] <;> rfl
 ·show s_ShardOkL2 _ p [_,_,_,_,_,_,_,_,_,_,_,_,.i ((gd p 3).rows.length:Int),_,_,_,_,_,_,_,_,_]=_
  rw [s_ShardOkR2]
  simp only [int_i,c_nlt]
theorem s_ShardOkI4 (p:List D) (N:Nat) (hN:(gd p 4).rows.length<N) (hl:(gd p 4).rows.length≤9223372036854775807):iter (s_ShardOkL4 N p) N [gd p 0,gd p 1,gd p 2,gd p 3,gd p 4,gd p 5,gd p 6,gd p 7,gd p 8,.i 0,.i 0,.i ((gd p 2).rows.length:Int),.i ((gd p 3).rows.length:Int),.i 0,gd p 0,gd p 1,gd p 2,gd p 3,gd p 4,gd p 5,gd p 6,gd p 7,gd p 8]=some (bif shardA p 4 4 shardC4 then (6,[gd p 0,gd p 1,gd p 2,gd p 3,gd p 4,gd p 5,gd p 6,gd p 7,gd p 8,.i 0,.i 0,.i ((gd p 2).rows.length:Int),.i ((gd p 3).rows.length:Int),.i ((gd p 4).rows.length:Int),gd p 0,gd p 1,gd p 2,gd p 3,gd p 4,gd p 5,gd p 6,gd p 7,gd p 8]) else (1,[.b false])):=by
 have e:=for_loop (L:=s_ShardOkL4 N p) (fun k => [gd p 0,gd p 1,gd p 2,gd p 3,gd p 4,gd p 5,gd p 6,gd p 7,gd p 8,.i 0,.i 0,.i ((gd p 2).rows.length:Int),.i ((gd p 3).rows.length:Int),.i (k:Int),gd p 0,gd p 1,gd p 2,gd p 3,gd p 4,gd p 5,gd p 6,gd p 7,gd p 8]) (gd p 4).rows.length (shardC4 p) [.b false] 4 (fun k hk=>?_) ?_ (N:=N) hN
 ·simp only [Int.natCast_zero] at e
  exact e
 ·show s_ShardOkL4 _ p [_,_,_,_,_,_,_,_,_,_,_,_,_,.i (k:Int),_,_,_,_,_,_,_,_,_]=_
  rw [s_ShardOkR4]
  simp only [int_i,c_lt hk,nd_ix hk,w64_succ hk hl,Int.toNat_natCast]
  unfold shardC4
  cases rangesHave (gd p 1) [gd ((gd p 4).rows.getD k []) 1,gd ((gd p 4).rows.getD k []) 2] <;> cases hasInt (gd p 6) (gd ((gd p 4).rows.getD k []) 0).int <;> cases hasInt (gd p 7) (gd ((gd p 4).rows.getD k []) 0).int <;> rfl
 ·show s_ShardOkL4 _ p [_,_,_,_,_,_,_,_,_,_,_,_,_,.i ((gd p 4).rows.length:Int),_,_,_,_,_,_,_,_,_]=_
  rw [s_ShardOkR4]
  simp only [int_i,c_nlt]
theorem s_ShardOkI6 (p:List D) (N:Nat) (hN:(gd p 6).rows.length<N) (hl:(gd p 6).rows.length≤9223372036854775807):iter (s_ShardOkL6 N p) N [gd p 0,gd p 1,gd p 2,gd p 3,gd p 4,gd p 5,gd p 6,gd p 7,gd p 8,.i 0,.i 0,.i ((gd p 2).rows.length:Int),.i ((gd p 3).rows.length:Int),.i ((gd p 4).rows.length:Int),.i 0,gd p 0,gd p 1,gd p 2,gd p 3,gd p 4,gd p 5,gd p 6,gd p 7,gd p 8]=some (bif shardA p 6 6 shardC6 then (8,[gd p 0,gd p 1,gd p 2,gd p 3,gd p 4,gd p 5,gd p 6,gd p 7,gd p 8,.i 0,.i 0,.i ((gd p 2).rows.length:Int),.i ((gd p 3).rows.length:Int),.i ((gd p 4).rows.length:Int),.i ((gd p 6).rows.length:Int),gd p 0,gd p 1,gd p 2,gd p 3,gd p 4,gd p 5,gd p 6,gd p 7,gd p 8]) else (1,[.b false])):=by
 have e:=for_loop (L:=s_ShardOkL6 N p) (fun k => [gd p 0,gd p 1,gd p 2,gd p 3,gd p 4,gd p 5,gd p 6,gd p 7,gd p 8,.i 0,.i 0,.i ((gd p 2).rows.length:Int),.i ((gd p 3).rows.length:Int),.i ((gd p 4).rows.length:Int),.i (k:Int),gd p 0,gd p 1,gd p 2,gd p 3,gd p 4,gd p 5,gd p 6,gd p 7,gd p 8]) (gd p 6).rows.length (shardC6 p) [.b false] 6 (fun k hk=>?_) ?_ (N:=N) hN
 ·simp only [Int.natCast_zero] at e
  exact e
 ·show s_ShardOkL6 _ p [_,_,_,_,_,_,_,_,_,_,_,_,_,_,.i (k:Int),_,_,_,_,_,_,_,_,_]=_
  rw [s_ShardOkR6]
  simp only [int_i,c_lt hk,nd_ix hk,w64_succ hk hl,Int.toNat_natCast]
  unfold shardC6
  cases hasInt (gd p 7) (gd ((gd p 6).rows.getD k []) 0).int <;> rfl
 ·show s_ShardOkL6 _ p [_,_,_,_,_,_,_,_,_,_,_,_,_,_,.i ((gd p 6).rows.length:Int),_,_,_,_,_,_,_,_,_]=_
  rw [s_ShardOkR6]
  simp only [int_i,c_nlt]
theorem lt60 (n:Nat):ltI 60 (n:Int) = !leI (n:Int) 60:=by
 rw [Bool.eq_iff_iff]; simp only [ltI,leI,decide_eq_true_eq,Bool.not_eq_true',decide_eq_false_iff_not]; omega
theorem s_ShardOkx1 (p:List D) (N:Nat) (h5:leI ((gd p 5).rows.length:Int) 60=true) (h3:storeOk (gd p 3)=true):s_ShardOks1 N p (some (8,[gd p 0,gd p 1,gd p 2,gd p 3,gd p 4,gd p 5,gd p 6,gd p 7,gd p 8,.i 0,.i 0,.i ((gd p 2).rows.length:Int),.i ((gd p 3).rows.length:Int),.i ((gd p 4).rows.length:Int),.i ((gd p 6).rows.length:Int),gd p 0,gd p 1,gd p 2,gd p 3,gd p 4,gd p 5,gd p 6,gd p 7,gd p 8]))=ob (shardSum p):=by
 simp only [leI,decide_eq_true_eq] at h5
 have hs:=(store_sorted h3).len
 have hn:=newSum_in (gd p 3) (gd p 5) (gd p 5).rows.length
 rw [show s_ShardOks1 N p (some (8,[gd p 0,gd p 1,gd p 2,gd p 3,gd p 4,gd p 5,gd p 6,gd p 7,gd p 8,.i 0,.i 0,.i ((gd p 2).rows.length:Int),.i ((gd p 3).rows.length:Int),.i ((gd p 4).rows.length:Int),.i ((gd p 6).rows.length:Int),gd p 0,gd p 1,gd p 2,gd p 3,gd p 4,gd p 5,gd p 6,gd p 7,gd p 8]))=(bif heldsOkS p then nd (leI ((gd p 5).rows.length:Int) 1000000000) (ob (leI (w64 (((gd p 3).rows.length:Int)+newSum (gd p 3) (gd p 5) (gd p 5).rows.length)) 60)) else ob false) from by kernel_rfl]
 rw [leI_t (show ((gd p 5).rows.length:Int)≤1000000000 from by omega),nd_true,w64_id (by omega) (by omega)]
 unfold shardSum
 cases heldsOkS p <;> rfl
theorem s_ShardOkx2 (p:List D) (N:Nat) (hN:((gd p 2).rows.length+(gd p 3).rows.length+(gd p 4).rows.length+(gd p 6).rows.length+1)≤N) (hl:∀ j,j ∈ [2,3,4,6]→(gd p j).rows.length≤9223372036854775807) (h5:leI ((gd p 5).rows.length:Int) 60=true) (h3:storeOk (gd p 3)=true):s_ShardOks2 N p (some (6,[gd p 0,gd p 1,gd p 2,gd p 3,gd p 4,gd p 5,gd p 6,gd p 7,gd p 8,.i 0,.i 0,.i ((gd p 2).rows.length:Int),.i ((gd p 3).rows.length:Int),.i ((gd p 4).rows.length:Int),gd p 0,gd p 1,gd p 2,gd p 3,gd p 4,gd p 5,gd p 6,gd p 7,gd p 8]))=ob (shardA p 6 6 shardC6&&(shardSum p)):=by
 rw [show s_ShardOks2 N p (some (6,[gd p 0,gd p 1,gd p 2,gd p 3,gd p 4,gd p 5,gd p 6,gd p 7,gd p 8,.i 0,.i 0,.i ((gd p 2).rows.length:Int),.i ((gd p 3).rows.length:Int),.i ((gd p 4).rows.length:Int),gd p 0,gd p 1,gd p 2,gd p 3,gd p 4,gd p 5,gd p 6,gd p 7,gd p 8]))=nd (iter (s_ShardOkL6 N p) N [gd p 0,gd p 1,gd p 2,gd p 3,gd p 4,gd p 5,gd p 6,gd p 7,gd p 8,.i 0,.i 0,.i ((gd p 2).rows.length:Int),.i ((gd p 3).rows.length:Int),.i ((gd p 4).rows.length:Int),.i 0,gd p 0,gd p 1,gd p 2,gd p 3,gd p 4,gd p 5,gd p 6,gd p 7,gd p 8]).isSome (s_ShardOks1 N p (iter (s_ShardOkL6 N p) N [gd p 0,gd p 1,gd p 2,gd p 3,gd p 4,gd p 5,gd p 6,gd p 7,gd p 8,.i 0,.i 0,.i ((gd p 2).rows.length:Int),.i ((gd p 3).rows.length:Int),.i ((gd p 4).rows.length:Int),.i 0,gd p 0,gd p 1,gd p 2,gd p 3,gd p 4,gd p 5,gd p 6,gd p 7,gd p 8])) from by kernel_rfl]
 rw [s_ShardOkI6 p N (by omega) (hl 6 (by simp))]
 cases shardA p 6 6 shardC6
 ·rfl
 ·show s_ShardOks1 N p (some (8,[gd p 0,gd p 1,gd p 2,gd p 3,gd p 4,gd p 5,gd p 6,gd p 7,gd p 8,.i 0,.i 0,.i ((gd p 2).rows.length:Int),.i ((gd p 3).rows.length:Int),.i ((gd p 4).rows.length:Int),.i ((gd p 6).rows.length:Int),gd p 0,gd p 1,gd p 2,gd p 3,gd p 4,gd p 5,gd p 6,gd p 7,gd p 8]))=ob (true&&(shardSum p))
  rw [Bool.true_and]
  exact s_ShardOkx1 p N h5 h3
theorem s_ShardOkx3 (p:List D) (N:Nat) (hN:((gd p 2).rows.length+(gd p 3).rows.length+(gd p 4).rows.length+(gd p 6).rows.length+1)≤N) (hl:∀ j,j ∈ [2,3,4,6]→(gd p j).rows.length≤9223372036854775807) (h5:leI ((gd p 5).rows.length:Int) 60=true) (h3:storeOk (gd p 3)=true):s_ShardOks3 N p (some (4,[gd p 0,gd p 1,gd p 2,gd p 3,gd p 4,gd p 5,gd p 6,gd p 7,gd p 8,.i 0,.i 0,.i ((gd p 2).rows.length:Int),.i ((gd p 3).rows.length:Int),gd p 0,gd p 1,gd p 2,gd p 3,gd p 4,gd p 5,gd p 6,gd p 7,gd p 8]))=ob (shardA p 4 4 shardC4&&(shardA p 6 6 shardC6&&(shardSum p))):=by
 rw [show s_ShardOks3 N p (some (4,[gd p 0,gd p 1,gd p 2,gd p 3,gd p 4,gd p 5,gd p 6,gd p 7,gd p 8,.i 0,.i 0,.i ((gd p 2).rows.length:Int),.i ((gd p 3).rows.length:Int),gd p 0,gd p 1,gd p 2,gd p 3,gd p 4,gd p 5,gd p 6,gd p 7,gd p 8]))=nd (iter (s_ShardOkL4 N p) N [gd p 0,gd p 1,gd p 2,gd p 3,gd p 4,gd p 5,gd p 6,gd p 7,gd p 8,.i 0,.i 0,.i ((gd p 2).rows.length:Int),.i ((gd p 3).rows.length:Int),.i 0,gd p 0,gd p 1,gd p 2,gd p 3,gd p 4,gd p 5,gd p 6,gd p 7,gd p 8]).isSome (bif Out.code (iter (s_ShardOkL4 N p) N [gd p 0,gd p 1,gd p 2,gd p 3,gd p 4,gd p 5,gd p 6,gd p 7,gd p 8,.i 0,.i 0,.i ((gd p 2).rows.length:Int),.i ((gd p 3).rows.length:Int),.i 0,gd p 0,gd p 1,gd p 2,gd p 3,gd p 4,gd p 5,gd p 6,gd p 7,gd p 8])==1 then some (1,Out.pay (iter (s_ShardOkL4 N p) N [gd p 0,gd p 1,gd p 2,gd p 3,gd p 4,gd p 5,gd p 6,gd p 7,gd p 8,.i 0,.i 0,.i ((gd p 2).rows.length:Int),.i ((gd p 3).rows.length:Int),.i 0,gd p 0,gd p 1,gd p 2,gd p 3,gd p 4,gd p 5,gd p 6,gd p 7,gd p 8])) else nd (Out.code (iter (s_ShardOkL4 N p) N [gd p 0,gd p 1,gd p 2,gd p 3,gd p 4,gd p 5,gd p 6,gd p 7,gd p 8,.i 0,.i 0,.i ((gd p 2).rows.length:Int),.i ((gd p 3).rows.length:Int),.i 0,gd p 0,gd p 1,gd p 2,gd p 3,gd p 4,gd p 5,gd p 6,gd p 7,gd p 8])==6) (s_ShardOks2 N p (iter (s_ShardOkL4 N p) N [gd p 0,gd p 1,gd p 2,gd p 3,gd p 4,gd p 5,gd p 6,gd p 7,gd p 8,.i 0,.i 0,.i ((gd p 2).rows.length:Int),.i ((gd p 3).rows.length:Int),.i 0,gd p 0,gd p 1,gd p 2,gd p 3,gd p 4,gd p 5,gd p 6,gd p 7,gd p 8]))) from by kernel_rfl]
 rw [s_ShardOkI4 p N (by omega) (hl 4 (by simp))]
 cases shardA p 4 4 shardC4
 ·rfl
 ·show s_ShardOks2 N p (some (6,[gd p 0,gd p 1,gd p 2,gd p 3,gd p 4,gd p 5,gd p 6,gd p 7,gd p 8,.i 0,.i 0,.i ((gd p 2).rows.length:Int),.i ((gd p 3).rows.length:Int),.i ((gd p 4).rows.length:Int),gd p 0,gd p 1,gd p 2,gd p 3,gd p 4,gd p 5,gd p 6,gd p 7,gd p 8]))=ob (true&&(shardA p 6 6 shardC6&&(shardSum p)))
  rw [Bool.true_and]
  exact s_ShardOkx2 p N hN hl h5 h3
theorem s_ShardOkx4 (p:List D) (N:Nat) (hN:((gd p 2).rows.length+(gd p 3).rows.length+(gd p 4).rows.length+(gd p 6).rows.length+1)≤N) (hl:∀ j,j ∈ [2,3,4,6]→(gd p j).rows.length≤9223372036854775807) (h5:leI ((gd p 5).rows.length:Int) 60=true) (h3:storeOk (gd p 3)=true):s_ShardOks4 N p (some (2,[gd p 0,gd p 1,gd p 2,gd p 3,gd p 4,gd p 5,gd p 6,gd p 7,gd p 8,.i 0,.i 0,.i ((gd p 2).rows.length:Int),gd p 0,gd p 1,gd p 2,gd p 3,gd p 4,gd p 5,gd p 6,gd p 7,gd p 8]))=ob (shardA p 3 2 shardC2&&(shardA p 4 4 shardC4&&(shardA p 6 6 shardC6&&(shardSum p)))):=by
 rw [show s_ShardOks4 N p (some (2,[gd p 0,gd p 1,gd p 2,gd p 3,gd p 4,gd p 5,gd p 6,gd p 7,gd p 8,.i 0,.i 0,.i ((gd p 2).rows.length:Int),gd p 0,gd p 1,gd p 2,gd p 3,gd p 4,gd p 5,gd p 6,gd p 7,gd p 8]))=nd (iter (s_ShardOkL2 N p) N [gd p 0,gd p 1,gd p 2,gd p 3,gd p 4,gd p 5,gd p 6,gd p 7,gd p 8,.i 0,.i 0,.i ((gd p 2).rows.length:Int),.i 0,gd p 0,gd p 1,gd p 2,gd p 3,gd p 4,gd p 5,gd p 6,gd p 7,gd p 8]).isSome (bif Out.code (iter (s_ShardOkL2 N p) N [gd p 0,gd p 1,gd p 2,gd p 3,gd p 4,gd p 5,gd p 6,gd p 7,gd p 8,.i 0,.i 0,.i ((gd p 2).rows.length:Int),.i 0,gd p 0,gd p 1,gd p 2,gd p 3,gd p 4,gd p 5,gd p 6,gd p 7,gd p 8])==1 then some (1,Out.pay (iter (s_ShardOkL2 N p) N [gd p 0,gd p 1,gd p 2,gd p 3,gd p 4,gd p 5,gd p 6,gd p 7,gd p 8,.i 0,.i 0,.i ((gd p 2).rows.length:Int),.i 0,gd p 0,gd p 1,gd p 2,gd p 3,gd p 4,gd p 5,gd p 6,gd p 7,gd p 8])) else nd (Out.code (iter (s_ShardOkL2 N p) N [gd p 0,gd p 1,gd p 2,gd p 3,gd p 4,gd p 5,gd p 6,gd p 7,gd p 8,.i 0,.i 0,.i ((gd p 2).rows.length:Int),.i 0,gd p 0,gd p 1,gd p 2,gd p 3,gd p 4,gd p 5,gd p 6,gd p 7,gd p 8])==4) (s_ShardOks3 N p (iter (s_ShardOkL2 N p) N [gd p 0,gd p 1,gd p 2,gd p 3,gd p 4,gd p 5,gd p 6,gd p 7,gd p 8,.i 0,.i 0,.i ((gd p 2).rows.length:Int),.i 0,gd p 0,gd p 1,gd p 2,gd p 3,gd p 4,gd p 5,gd p 6,gd p 7,gd p 8]))) from by kernel_rfl]
 rw [s_ShardOkI2 p N (by omega) (hl 3 (by simp))]
 cases shardA p 3 2 shardC2
 ·rfl
 ·show s_ShardOks3 N p (some (4,[gd p 0,gd p 1,gd p 2,gd p 3,gd p 4,gd p 5,gd p 6,gd p 7,gd p 8,.i 0,.i 0,.i ((gd p 2).rows.length:Int),.i ((gd p 3).rows.length:Int),gd p 0,gd p 1,gd p 2,gd p 3,gd p 4,gd p 5,gd p 6,gd p 7,gd p 8]))=ob (true&&(shardA p 4 4 shardC4&&(shardA p 6 6 shardC6&&(shardSum p))))
  rw [Bool.true_and]
  exact s_ShardOkx3 p N hN hl h5 h3
theorem s_ShardOkx5 (p:List D) (N:Nat) (hN:((gd p 2).rows.length+(gd p 3).rows.length+(gd p 4).rows.length+(gd p 6).rows.length+1)≤N) (hl:∀ j,j ∈ [2,3,4,6]→(gd p j).rows.length≤9223372036854775807) (h5:leI ((gd p 5).rows.length:Int) 60=true) (h3:storeOk (gd p 3)=true):s_ShardOks5 N p=ob (shardA p 2 0 shardC0&&(shardA p 3 2 shardC2&&(shardA p 4 4 shardC4&&(shardA p 6 6 shardC6&&(shardSum p))))):=by
 rw [show s_ShardOks5 N p=nd (iter (s_ShardOkL0 N p) N [gd p 0,gd p 1,gd p 2,gd p 3,gd p 4,gd p 5,gd p 6,gd p 7,gd p 8,.i 0,.i 0,.i 0,gd p 0,gd p 1,gd p 2,gd p 3,gd p 4,gd p 5,gd p 6,gd p 7,gd p 8]).isSome (bif Out.code (iter (s_ShardOkL0 N p) N [gd p 0,gd p 1,gd p 2,gd p 3,gd p 4,gd p 5,gd p 6,gd p 7,gd p 8,.i 0,.i 0,.i 0,gd p 0,gd p 1,gd p 2,gd p 3,gd p 4,gd p 5,gd p 6,gd p 7,gd p 8])==1 then some (1,Out.pay (iter (s_ShardOkL0 N p) N [gd p 0,gd p 1,gd p 2,gd p 3,gd p 4,gd p 5,gd p 6,gd p 7,gd p 8,.i 0,.i 0,.i 0,gd p 0,gd p 1,gd p 2,gd p 3,gd p 4,gd p 5,gd p 6,gd p 7,gd p 8])) else nd (Out.code (iter (s_ShardOkL0 N p) N [gd p 0,gd p 1,gd p 2,gd p 3,gd p 4,gd p 5,gd p 6,gd p 7,gd p 8,.i 0,.i 0,.i 0,gd p 0,gd p 1,gd p 2,gd p 3,gd p 4,gd p 5,gd p 6,gd p 7,gd p 8])==2) (s_ShardOks4 N p (iter (s_ShardOkL0 N p) N [gd p 0,gd p 1,gd p 2,gd p 3,gd p 4,gd p 5,gd p 6,gd p 7,gd p 8,.i 0,.i 0,.i 0,gd p 0,gd p 1,gd p 2,gd p 3,gd p 4,gd p 5,gd p 6,gd p 7,gd p 8]))) from by kernel_rfl]
 rw [s_ShardOkI0 p N (by omega) (hl 2 (by simp))]
 cases shardA p 2 0 shardC0
 ·rfl
 ·show s_ShardOks4 N p (some (2,[gd p 0,gd p 1,gd p 2,gd p 3,gd p 4,gd p 5,gd p 6,gd p 7,gd p 8,.i 0,.i 0,.i ((gd p 2).rows.length:Int),gd p 0,gd p 1,gd p 2,gd p 3,gd p 4,gd p 5,gd p 6,gd p 7,gd p 8]))=ob (true&&(shardA p 3 2 shardC2&&(shardA p 4 4 shardC4&&(shardA p 6 6 shardC6&&(shardSum p)))))
  rw [Bool.true_and]
  exact s_ShardOkx4 p N hN hl h5 h3
theorem ob_step {a g:Bool} {x:Out} (h:a=true→x=ob g):(bif !a then ob false else x)=ob (a&&g):=by
 cases a
 ·rfl
 ·exact h rfl
def s_ShardOkE:Ent:=(44,e1 (ag rIShard) fun p=>(⟨rb,[.b (shardOk p)]⟩,true))
theorem s_ShardOk_ok:EntOk Tryz.prog s_ShardOkE:=e1_ok fun p h=>evFn_sound (N:=((gd p 2).rows.length+(gd p 3).rows.length+(gd p 4).rows.length+(gd p 6).rows.length+1)) (ks:=s_ShardOkK) (key:=bo) s_ShardOkT_ok (enters Tryz.func44) Tryz.func44 fun hw=>by
 rw [s_ShardOk_ev]
 have hl:∀ j,j ∈ [2,3,4,6]→(gd p j).rows.length≤9223372036854775807:=by
  intro j hj
  simp only [List.mem_cons,List.not_mem_nil,or_false] at hj
  rcases hj with rfl | rfl | rfl | rfl <;> exact wt_at (hw ⟨ag rIShard,p⟩ (by simp)) rfl
 refine congrArg (fun x=>some (bo,x)) ?_
 show s_ShardOks10 ((gd p 2).rows.length+(gd p 3).rows.length+(gd p 4).rows.length+(gd p 6).rows.length+1) p=ob (shardOk p)
 unfold s_ShardOks10 s_ShardOks9 s_ShardOks8 s_ShardOks7 s_ShardOks6 shardOk
 simp only [lt60]
 refine ob_step fun _=>?_
 refine ob_step fun _=>?_
 refine ob_step fun _=>?_
 refine ob_step fun h3=>?_
 refine ob_step fun _=>?_
 refine ob_step fun _=>?_
 refine ob_step fun h5=>?_
 refine ob_step fun _=>?_
 refine ob_step fun _=>?_
 refine ob_step fun _=>?_
 refine ob_step fun _=>?_
 exact s_ShardOkx5 p _ (Nat.le_refl _) hl h5 h3
end Go.Proofs.YtecefnhhlaolmaaGreat
namespace Go.Proofs.YtecefnhhlaolmaaGreat
set_option maxRecDepth 4096
set_option maxHeartbeats 1000000
abbrev s_TownOkT:FuncId→List T→Option (T × Bool):=find [s_AtlasOkE,s_l1InE,s_CoordOkE,s_l16OwnersInE,s_l16ClientsOkE,s_ShardOkE,s_LetterOkE,s_l16EventOkE]
theorem s_TownOkT_ok:CallOk Tryz.prog s_TownOkT:=find_ok (fC ⟨s_AtlasOk_ok,fC ⟨s_l1In_ok,fC ⟨s_CoordOk_ok,fC ⟨s_l16OwnersIn_ok,fC ⟨s_l16ClientsOk_ok,fC ⟨s_ShardOk_ok,fC ⟨s_LetterOk_ok,fC ⟨s_l16EventOk_ok,fN⟩⟩⟩⟩⟩⟩⟩⟩)
abbrev s_TownOkK:List Nat:= [0,1,2,3,4,5,6,43,70,73,92,97,128,133,145,1000043,1000070,1000073,1000092,1000097,1000128,1000133,1000145]
noncomputable def s_TownOkL0 (N:Nat) (p:List D):List D→Out:=loopOf Tryz.prog s_TownOkT N s_TownOkK Tryz.f17 rb [⟨ag rITown,p⟩] 0
noncomputable def s_TownOkL2 (N:Nat) (p:List D):List D→Out:=loopOf Tryz.prog s_TownOkT N s_TownOkK Tryz.f17 rb [⟨ag rITown,p⟩] 2
noncomputable def s_TownOkL4 (N:Nat) (p:List D):List D→Out:=loopOf Tryz.prog s_TownOkT N s_TownOkK Tryz.f17 rb [⟨ag rITown,p⟩] 4
theorem s_TownOkR0 (N:Nat) (p:List D) (x0 x1 x2 x3 x4 x5 x6 x7 x8 x9 x10 x11 x12 x13 x14 x15 x16 x17 x18 x19 x20 x21 x22 x23 x24 x25 x26 x27 x28 x29 x30 x31 x32 x33:D):(s_TownOkL0 N p) [x0,x1,x2,x3,x4,x5,x6,x7,x8,x9,x10,x11,x12,x13,x14,x15,x16,x17,x18,x19,x20,x21,x22,x23,x24,x25,x26,x27,x28,x29,x30,x31,x32,x33] =
 bif ltI x18.int x17.int then nd (inRange x18.int x28.rows.length) (bif !(shardOk (sub (x28.rows.getD x18.int.toNat []) 0 9)) then ob false
 else nd (inRange x18.int x28.rows.length) (bif (gd (x28.rows.getD x18.int.toNat []) 0).int != x18.int then ob false
 else nx [x0,x1,x2,x3,x4,x5,x6,x7,x8,x9,x10,x11,x12,x13,x14,x15,x16,x17,.i (w64 (x18.int+1)),x19,x20,x21,x22,x23,x24,x25,x26,x27,x28,x29,x30,x31,x32,x33]))
 else ex 0 [x0,x1,x2,x3,x4,x5,x6,x7,x8,x9,x10,x11,x12,x13,x14,x15,x16,x17,x18,x19,x20,x21,x22,x23,x24,x25,x26,x27,x28,x29,x30,x31,x32,x33]:=by kernel_rfl
theorem s_TownOkR2 (N:Nat) (p:List D) (x0 x1 x2 x3 x4 x5 x6 x7 x8 x9 x10 x11 x12 x13 x14 x15 x16 x17 x18 x19 x20 x21 x22 x23 x24 x25 x26 x27 x28 x29 x30 x31 x32 x33 x34:D):(s_TownOkL2 N p) [x0,x1,x2,x3,x4,x5,x6,x7,x8,x9,x10,x11,x12,x13,x14,x15,x16,x17,x18,x19,x20,x21,x22,x23,x24,x25,x26,x27,x28,x29,x30,x31,x32,x33,x34] =
 bif ltI x19.int (x33.rows.length:Int) then nd (inRange x19.int x33.rows.length) (bif !(letterOk (sub (x33.rows.getD x19.int.toNat []) 0 14)) then ob false
 else nd (inRange x19.int x33.rows.length) (bif leI x17.int (gd (x33.rows.getD x19.int.toNat []) 1).int then ob false
 else nd (inRange x19.int x33.rows.length) (bif leI (x32.rows.length:Int) (gd (x33.rows.getD x19.int.toNat []) 2).int then ob false
 else nx [x0,x1,x2,x3,x4,x5,x6,x7,x8,x9,x10,x11,x12,x13,x14,x15,x16,x17,x18,.i (w64 (x19.int+1)),x20,x21,x22,x23,x24,x25,x26,x27,x28,x29,x30,x31,x32,x33,x34])))
 else ex 2 [x0,x1,x2,x3,x4,x5,x6,x7,x8,x9,x10,x11,x12,x13,x14,x15,x16,x17,x18,x19,x20,x21,x22,x23,x24,x25,x26,x27,x28,x29,x30,x31,x32,x33,x34]:=by kernel_rfl
theorem s_TownOkR4 (N:Nat) (p:List D) (x0 x1 x2 x3 x4 x5 x6 x7 x8 x9 x10 x11 x12 x13 x14 x15 x16 x17 x18 x19 x20 x21 x22 x23 x24 x25 x26 x27 x28 x29 x30 x31 x32 x33 x34 x35:D):(s_TownOkL4 N p) [x0,x1,x2,x3,x4,x5,x6,x7,x8,x9,x10,x11,x12,x13,x14,x15,x16,x17,x18,x19,x20,x21,x22,x23,x24,x25,x26,x27,x28,x29,x30,x31,x32,x33,x34,x35] =
 bif ltI x20.int (x35.rows.length:Int) then nd (inRange x20.int x35.rows.length) (bif !(eventOk (sub (x35.rows.getD x20.int.toNat []) 0 7) (x33.rows.length:Int)) then ob false
 else nx [x0,x1,x2,x3,x4,x5,x6,x7,x8,x9,x10,x11,x12,x13,x14,x15,x16,x17,x18,x19,.i (w64 (x20.int+1)),x21,x22,x23,x24,x25,x26,x27,x28,x29,x30,x31,x32,x33,x34,x35])
 else ex 4 [x0,x1,x2,x3,x4,x5,x6,x7,x8,x9,x10,x11,x12,x13,x14,x15,x16,x17,x18,x19,x20,x21,x22,x23,x24,x25,x26,x27,x28,x29,x30,x31,x32,x33,x34,x35]:=by kernel_rfl
noncomputable def s_TownOks0 (N:Nat) (p:List D) (o2:Out):Out:=let o4:Out:=iter (s_TownOkL4 N p) N [gd o2.pay 0,gd o2.pay 1,gd o2.pay 2,gd o2.pay 3,gd o2.pay 4,gd o2.pay 5,gd o2.pay 6,gd o2.pay 7,gd o2.pay 8,gd o2.pay 9,gd o2.pay 10,gd o2.pay 11,gd o2.pay 12,gd o2.pay 13,gd o2.pay 14,gd o2.pay 15,gd o2.pay 16,gd o2.pay 17,gd o2.pay 18,gd o2.pay 19,.i 0,gd o2.pay 20,gd o2.pay 21,gd o2.pay 22,gd o2.pay 23,gd o2.pay 24,gd o2.pay 25,gd o2.pay 26,gd o2.pay 27,gd o2.pay 28,gd o2.pay 29,gd o2.pay 30,gd o2.pay 31,gd o2.pay 32,gd o2.pay 33,gd o2.pay 34]; nd o4.isSome (bif o4.code==1 then some (1,o4.pay) else nd (o4.code==6) (ob true))
noncomputable def s_TownOks1 (N:Nat) (p:List D) (o0:Out):Out:=let o2:Out:=iter (s_TownOkL2 N p) N [gd o0.pay 0,gd o0.pay 1,gd o0.pay 2,gd o0.pay 3,gd o0.pay 4,gd o0.pay 5,gd o0.pay 6,gd o0.pay 7,gd o0.pay 8,gd o0.pay 9,gd o0.pay 10,gd o0.pay 11,gd o0.pay 12,gd o0.pay 13,gd o0.pay 14,gd o0.pay 15,gd o0.pay 16,gd o0.pay 17,gd o0.pay 18,.i 0,gd o0.pay 19,gd o0.pay 20,gd o0.pay 21,gd o0.pay 22,gd o0.pay 23,gd o0.pay 24,gd o0.pay 25,gd o0.pay 26,gd o0.pay 27,gd o0.pay 28,gd o0.pay 29,gd o0.pay 30,gd o0.pay 31,gd o0.pay 32,gd o0.pay 33]; nd o2.isSome (bif o2.code==1 then some (1,o2.pay) else nd (o2.code==4) (s_TownOks0 N p o2))
noncomputable def s_TownOks2 (N:Nat) (p:List D):Out:=let o0:Out:=iter (s_TownOkL0 N p) N [gd p 0,gd p 1,gd p 2,gd p 3,gd p 4,gd p 5,gd p 6,gd p 7,gd p 8,gd p 9,gd p 10,gd p 11,gd p 12,gd p 13,gd p 14,.i 0,.i 0,.i ((gd p 9).rows.length:Int),.i 0,gd p 0,gd p 1,gd p 2,gd p 3,gd p 4,gd p 5,gd p 6,gd p 7,gd p 8,gd p 9,gd p 10,gd p 11,gd p 12,gd p 13,gd p 14]; nd o0.isSome (bif o0.code==1 then some (1,o0.pay) else nd (o0.code==2) (s_TownOks1 N p o0))
noncomputable def s_TownOks3 (N:Nat) (p:List D):Out:=bif leI ((gd p 9).rows.length:Int) (gd p 7).int then ob false else bif !(clientsOk (gd p 12) ((gd p 9).rows.length:Int)) then ob false else (s_TownOks2 N p)
noncomputable def s_TownOks4 (N:Nat) (p:List D):Out:=bif !(ownersIn (gd p 1) ((gd p 9).rows.length:Int)) then ob false else bif leI ((gd p 9).rows.length:Int) (gd p 6).int then ob false else (s_TownOks3 N p)
noncomputable def s_TownOks5 (N:Nat) (p:List D):Out:=bif ltI 60 ((gd p 13).rows.length:Int) then ob false else bif ltI 200 ((gd p 14).rows.length:Int) then ob false else (s_TownOks4 N p)
noncomputable def s_TownOks6 (N:Nat) (p:List D):Out:=bif !(coordOk (sub p 10 2)) then ob false else bif !(inB ((gd p 12).rows.length:Int) 1 6) then ob false else (s_TownOks5 N p)
noncomputable def s_TownOks7 (N:Nat) (p:List D):Out:=bif !(atlasOk (sub p 0 9)) then ob false else bif !(inB ((gd p 9).rows.length:Int) 1 4) then ob false else (s_TownOks6 N p)
theorem s_TownOk_ev (N:Nat) (p:List D):evFn Tryz.prog s_TownOkT N s_TownOkK Tryz.f17 rb [⟨ag rITown,p⟩]=some (bo,(s_TownOks7 N p)):=by kernel_rfl
def townC0 (p:List D) (k:Nat):Bool:=shardOk (sub ((gd p 9).rows.getD k []) 0 9)&&((gd ((gd p 9).rows.getD k []) 0).int==(k:Int))
def townC2 (p:List D) (k:Nat):Bool:=letterOk (sub ((gd p 13).rows.getD k []) 0 14)&&(!leI ((gd p 9).rows.length:Int) (gd ((gd p 13).rows.getD k []) 1).int && !leI ((gd p 12).rows.length:Int) (gd ((gd p 13).rows.getD k []) 2).int)
def townC4 (p:List D) (k:Nat):Bool:=eventOk (sub ((gd p 14).rows.getD k []) 0 7) ((gd p 12).rows.length:Int)
def townOk (p:List D):Bool:=atlasOk (sub p 0 9)&&(inB ((gd p 9).rows.length:Int) 1 4&&(coordOk (sub p 10 2)&&(inB ((gd p 12).rows.length:Int) 1 6&&(leI ((gd p 13).rows.length:Int) 60&&(leI ((gd p 14).rows.length:Int) 200&&(ownersIn (gd p 1) ((gd p 9).rows.length:Int)&&(!leI ((gd p 9).rows.length:Int) (gd p 6).int&&(!leI ((gd p 9).rows.length:Int) (gd p 7).int&&(clientsOk (gd p 12) ((gd p 9).rows.length:Int)&&(shardA p 9 0 townC0&&(shardA p 13 2 townC2&&(shardA p 14 4 townC4))))))))))))
theorem s_TownOkI0 (p:List D) (N:Nat) (hN:(gd p 9).rows.length<N) (hl:(gd p 9).rows.length≤9223372036854775807):iter (s_TownOkL0 N p) N [gd p 0,gd p 1,gd p 2,gd p 3,gd p 4,gd p 5,gd p 6,gd p 7,gd p 8,gd p 9,gd p 10,gd p 11,gd p 12,gd p 13,gd p 14,.i 0,.i 0,.i ((gd p 9).rows.length:Int),.i 0,gd p 0,gd p 1,gd p 2,gd p 3,gd p 4,gd p 5,gd p 6,gd p 7,gd p 8,gd p 9,gd p 10,gd p 11,gd p 12,gd p 13,gd p 14]=some (bif shardA p 9 0 townC0 then (2,[gd p 0,gd p 1,gd p 2,gd p 3,gd p 4,gd p 5,gd p 6,gd p 7,gd p 8,gd p 9,gd p 10,gd p 11,gd p 12,gd p 13,gd p 14,.i 0,.i 0,.i ((gd p 9).rows.length:Int),.i ((gd p 9).rows.length:Int),gd p 0,gd p 1,gd p 2,gd p 3,gd p 4,gd p 5,gd p 6,gd p 7,gd p 8,gd p 9,gd p 10,gd p 11,gd p 12,gd p 13,gd p 14]) else (1,[.b false])):=by
 have e:=for_loop (L:=s_TownOkL0 N p) (fun k => [gd p 0,gd p 1,gd p 2,gd p 3,gd p 4,gd p 5,gd p 6,gd p 7,gd p 8,gd p 9,gd p 10,gd p 11,gd p 12,gd p 13,gd p 14,.i 0,.i 0,.i ((gd p 9).rows.length:Int),.i (k:Int),gd p 0,gd p 1,gd p 2,gd p 3,gd p 4,gd p 5,gd p 6,gd p 7,gd p 8,gd p 9,gd p 10,gd p 11,gd p 12,gd p 13,gd p 14]) (gd p 9).rows.length (townC0 p) [.b false] 0 (fun k hk=>?_) ?_ (N:=N) hN
 ·simp only [Int.natCast_zero] at e
  exact e
 ·show s_TownOkL0 _ p [_,_,_,_,_,_,_,_,_,_,_,_,_,_,_,_,_,.i ((gd p 9).rows.length:Int),.i (k:Int),_,_,_,_,_,_,_,_,_,_,_,_,_,_,_]=_
  rw [s_TownOkR0]
  simp only [int_i,c_lt hk,nd_ix hk,w64_succ hk hl,Int.toNat_natCast,bne_not]
  unfold townC0
  cases shardOk (sub ((gd p 9).rows.getD k []) 0 9) <;> cases ((gd ((gd p 9).rows.getD k []) 0).int==(k:Int)) <;> rfl
 ·show s_TownOkL0 _ p [_,_,_,_,_,_,_,_,_,_,_,_,_,_,_,_,_,.i ((gd p 9).rows.length:Int),.i ((gd p 9).rows.length:Int),_,_,_,_,_,_,_,_,_,_,_,_,_,_,_]=_
  rw [s_TownOkR0]
  simp only [int_i,c_nlt]
theorem s_TownOkI2 (p:List D) (N:Nat) (hN:(gd p 13).rows.length<N) (hl:(gd p 13).rows.length≤9223372036854775807):iter (s_TownOkL2 N p) N [gd p 0,gd p 1,gd p 2,gd p 3,gd p 4,gd p 5,gd p 6,gd p 7,gd p 8,gd p 9,gd p 10,gd p 11,gd p 12,gd p 13,gd p 14,.i 0,.i 0,.i ((gd p 9).rows.length:Int),.i ((gd p 9).rows.length:Int),.i 0,gd p 0,gd p 1,gd p 2,gd p 3,gd p 4,gd p 5,gd p 6,gd p 7,gd p 8,gd p 9,gd p 10,gd p 11,gd p 12,gd p 13,gd p 14]=some (bif shardA p 13 2 townC2 then (4,[gd p 0,gd p 1,gd p 2,gd p 3,gd p 4,gd p 5,gd p 6,gd p 7,gd p 8,gd p 9,gd p 10,gd p 11,gd p 12,gd p 13,gd p 14,.i 0,.i 0,.i ((gd p 9).rows.length:Int),.i ((gd p 9).rows.length:Int),.i ((gd p 13).rows.length:Int),gd p 0,gd p 1,gd p 2,gd p 3,gd p 4,gd p 5,gd p 6,gd p 7,gd p 8,gd p 9,gd p 10,gd p 11,gd p 12,gd p 13,gd p 14]) else (1,[.b false])):=by
 have e:=for_loop (L:=s_TownOkL2 N p) (fun k => [gd p 0,gd p 1,gd p 2,gd p 3,gd p 4,gd p 5,gd p 6,gd p 7,gd p 8,gd p 9,gd p 10,gd p 11,gd p 12,gd p 13,gd p 14,.i 0,.i 0,.i ((gd p 9).rows.length:Int),.i ((gd p 9).rows.length:Int),.i (k:Int),gd p 0,gd p 1,gd p 2,gd p 3,gd p 4,gd p 5,gd p 6,gd p 7,gd p 8,gd p 9,gd p 10,gd p 11,gd p 12,gd p 13,gd p 14]) (gd p 13).rows.length (townC2 p) [.b false] 2 (fun k hk=>?_) ?_ (N:=N) hN
 ·simp only [Int.natCast_zero] at e
  exact e
 ·show s_TownOkL2 _ p [_,_,_,_,_,_,_,_,_,_,_,_,_,_,_,_,_,.i ((gd p 9).rows.length:Int),_,.i (k:Int),_,_,_,_,_,_,_,_,_,_,_,_,_,_,_]=_
  rw [s_TownOkR2]
  simp only [int_i,c_lt hk,nd_ix hk,w64_succ hk hl,Int.toNat_natCast,bne_not]
  unfold townC2
  cases letterOk (sub ((gd p 13).rows.getD k []) 0 14) <;> cases leI ((gd p 9).rows.length:Int) (gd ((gd p 13).rows.getD k []) 1).int <;> cases leI ((gd p 12).rows.length:Int) (gd ((gd p 13).rows.getD k []) 2).int <;> rfl
 ·show s_TownOkL2 _ p [_,_,_,_,_,_,_,_,_,_,_,_,_,_,_,_,_,.i ((gd p 9).rows.length:Int),_,.i ((gd p 13).rows.length:Int),_,_,_,_,_,_,_,_,_,_,_,_,_,_,_]=_
  rw [s_TownOkR2]
  simp only [int_i,c_nlt]
theorem s_TownOkI4 (p:List D) (N:Nat) (hN:(gd p 14).rows.length<N) (hl:(gd p 14).rows.length≤9223372036854775807):iter (s_TownOkL4 N p) N [gd p 0,gd p 1,gd p 2,gd p 3,gd p 4,gd p 5,gd p 6,gd p 7,gd p 8,gd p 9,gd p 10,gd p 11,gd p 12,gd p 13,gd p 14,.i 0,.i 0,.i ((gd p 9).rows.length:Int),.i ((gd p 9).rows.length:Int),.i ((gd p 13).rows.length:Int),.i 0,gd p 0,gd p 1,gd p 2,gd p 3,gd p 4,gd p 5,gd p 6,gd p 7,gd p 8,gd p 9,gd p 10,gd p 11,gd p 12,gd p 13,gd p 14]=some (bif shardA p 14 4 townC4 then (6,[gd p 0,gd p 1,gd p 2,gd p 3,gd p 4,gd p 5,gd p 6,gd p 7,gd p 8,gd p 9,gd p 10,gd p 11,gd p 12,gd p 13,gd p 14,.i 0,.i 0,.i ((gd p 9).rows.length:Int),.i ((gd p 9).rows.length:Int),.i ((gd p 13).rows.length:Int),.i ((gd p 14).rows.length:Int),gd p 0,gd p 1,gd p 2,gd p 3,gd p 4,gd p 5,gd p 6,gd p 7,gd p 8,gd p 9,gd p 10,gd p 11,gd p 12,gd p 13,gd p 14]) else (1,[.b false])):=by
 have e:=for_loop (L:=s_TownOkL4 N p) (fun k => [gd p 0,gd p 1,gd p 2,gd p 3,gd p 4,gd p 5,gd p 6,gd p 7,gd p 8,gd p 9,gd p 10,gd p 11,gd p 12,gd p 13,gd p 14,.i 0,.i 0,.i ((gd p 9).rows.length:Int),.i ((gd p 9).rows.length:Int),.i ((gd p 13).rows.length:Int),.i (k:Int),gd p 0,gd p 1,gd p 2,gd p 3,gd p 4,gd p 5,gd p 6,gd p 7,gd p 8,gd p 9,gd p 10,gd p 11,gd p 12,gd p 13,gd p 14]) (gd p 14).rows.length (townC4 p) [.b false] 4 (fun k hk=>?_) ?_ (N:=N) hN
 ·simp only [Int.natCast_zero] at e
  exact e
 ·show s_TownOkL4 _ p [_,_,_,_,_,_,_,_,_,_,_,_,_,_,_,_,_,.i ((gd p 9).rows.length:Int),_,_,.i (k:Int),_,_,_,_,_,_,_,_,_,_,_,_,_,_,_]=_
  rw [s_TownOkR4]
  simp only [int_i,c_lt hk,nd_ix hk,w64_succ hk hl,Int.toNat_natCast,bne_not]
  unfold townC4
  cases eventOk (sub ((gd p 14).rows.getD k []) 0 7) ((gd p 12).rows.length:Int) <;> rfl
 ·show s_TownOkL4 _ p [_,_,_,_,_,_,_,_,_,_,_,_,_,_,_,_,_,.i ((gd p 9).rows.length:Int),_,_,.i ((gd p 14).rows.length:Int),_,_,_,_,_,_,_,_,_,_,_,_,_,_,_]=_
  rw [s_TownOkR4]
  simp only [int_i,c_nlt]
theorem lt200 (n:Nat):ltI 200 (n:Int) = !leI (n:Int) 200:=by
 rw [Bool.eq_iff_iff]; simp only [ltI,leI,decide_eq_true_eq,Bool.not_eq_true',decide_eq_false_iff_not]; omega
theorem ob_stepn {a g:Bool} {x:Out} (h:x=ob g):(bif a then ob false else x)=ob (!a&&g):=by
 cases a
 ·exact h
 ·rfl
theorem s_TownOkx0 (p:List D) (N:Nat) (hN:((gd p 9).rows.length+(gd p 13).rows.length+(gd p 14).rows.length+1)≤N) (hl:∀ j,j ∈ [9,13,14]→(gd p j).rows.length≤9223372036854775807):s_TownOks0 N p (some (4,[gd p 0,gd p 1,gd p 2,gd p 3,gd p 4,gd p 5,gd p 6,gd p 7,gd p 8,gd p 9,gd p 10,gd p 11,gd p 12,gd p 13,gd p 14,.i 0,.i 0,.i ((gd p 9).rows.length:Int),.i ((gd p 9).rows.length:Int),.i ((gd p 13).rows.length:Int),gd p 0,gd p 1,gd p 2,gd p 3,gd p 4,gd p 5,gd p 6,gd p 7,gd p 8,gd p 9,gd p 10,gd p 11,gd p 12,gd p 13,gd p 14]))=ob (shardA p 14 4 townC4):=by
 rw [show s_TownOks0 N p (some (4,[gd p 0,gd p 1,gd p 2,gd p 3,gd p 4,gd p 5,gd p 6,gd p 7,gd p 8,gd p 9,gd p 10,gd p 11,gd p 12,gd p 13,gd p 14,.i 0,.i 0,.i ((gd p 9).rows.length:Int),.i ((gd p 9).rows.length:Int),.i ((gd p 13).rows.length:Int),gd p 0,gd p 1,gd p 2,gd p 3,gd p 4,gd p 5,gd p 6,gd p 7,gd p 8,gd p 9,gd p 10,gd p 11,gd p 12,gd p 13,gd p 14]))=nd (iter (s_TownOkL4 N p) N [gd p 0,gd p 1,gd p 2,gd p 3,gd p 4,gd p 5,gd p 6,gd p 7,gd p 8,gd p 9,gd p 10,gd p 11,gd p 12,gd p 13,gd p 14,.i 0,.i 0,.i ((gd p 9).rows.length:Int),.i ((gd p 9).rows.length:Int),.i ((gd p 13).rows.length:Int),.i 0,gd p 0,gd p 1,gd p 2,gd p 3,gd p 4,gd p 5,gd p 6,gd p 7,gd p 8,gd p 9,gd p 10,gd p 11,gd p 12,gd p 13,gd p 14]).isSome (bif Out.code (iter (s_TownOkL4 N p) N [gd p 0,gd p 1,gd p 2,gd p 3,gd p 4,gd p 5,gd p 6,gd p 7,gd p 8,gd p 9,gd p 10,gd p 11,gd p 12,gd p 13,gd p 14,.i 0,.i 0,.i ((gd p 9).rows.length:Int),.i ((gd p 9).rows.length:Int),.i ((gd p 13).rows.length:Int),.i 0,gd p 0,gd p 1,gd p 2,gd p 3,gd p 4,gd p 5,gd p 6,gd p 7,gd p 8,gd p 9,gd p 10,gd p 11,gd p 12,gd p 13,gd p 14])==1 then some (1,Out.pay (iter (s_TownOkL4 N p) N [gd p 0,gd p 1,gd p 2,gd p 3,gd p 4,gd p 5,gd p 6,gd p 7,gd p 8,gd p 9,gd p 10,gd p 11,gd p 12,gd p 13,gd p 14,.i 0,.i 0,.i ((gd p 9).rows.length:Int),.i ((gd p 9).rows.length:Int),.i ((gd p 13).rows.length:Int),.i 0,gd p 0,gd p 1,gd p 2,gd p 3,gd p 4,gd p 5,gd p 6,gd p 7,gd p 8,gd p 9,gd p 10,gd p 11,gd p 12,gd p 13,gd p 14])) else nd (Out.code (iter (s_TownOkL4 N p) N [gd p 0,gd p 1,gd p 2,gd p 3,gd p 4,gd p 5,gd p 6,gd p 7,gd p 8,gd p 9,gd p 10,gd p 11,gd p 12,gd p 13,gd p 14,.i 0,.i 0,.i ((gd p 9).rows.length:Int),.i ((gd p 9).rows.length:Int),.i ((gd p 13).rows.length:Int),.i 0,gd p 0,gd p 1,gd p 2,gd p 3,gd p 4,gd p 5,gd p 6,gd p 7,gd p 8,gd p 9,gd p 10,gd p 11,gd p 12,gd p 13,gd p 14])==6) (ob true)) from by kernel_rfl]
 rw [s_TownOkI4 p N (by omega) (hl 14 (by simp))]
 cases shardA p 14 4 townC4 <;> rfl
theorem s_TownOkx1 (p:List D) (N:Nat) (hN:((gd p 9).rows.length+(gd p 13).rows.length+(gd p 14).rows.length+1)≤N) (hl:∀ j,j ∈ [9,13,14]→(gd p j).rows.length≤9223372036854775807):s_TownOks1 N p (some (2,[gd p 0,gd p 1,gd p 2,gd p 3,gd p 4,gd p 5,gd p 6,gd p 7,gd p 8,gd p 9,gd p 10,gd p 11,gd p 12,gd p 13,gd p 14,.i 0,.i 0,.i ((gd p 9).rows.length:Int),.i ((gd p 9).rows.length:Int),gd p 0,gd p 1,gd p 2,gd p 3,gd p 4,gd p 5,gd p 6,gd p 7,gd p 8,gd p 9,gd p 10,gd p 11,gd p 12,gd p 13,gd p 14]))=ob (shardA p 13 2 townC2&&(shardA p 14 4 townC4)):=by
 rw [show s_TownOks1 N p (some (2,[gd p 0,gd p 1,gd p 2,gd p 3,gd p 4,gd p 5,gd p 6,gd p 7,gd p 8,gd p 9,gd p 10,gd p 11,gd p 12,gd p 13,gd p 14,.i 0,.i 0,.i ((gd p 9).rows.length:Int),.i ((gd p 9).rows.length:Int),gd p 0,gd p 1,gd p 2,gd p 3,gd p 4,gd p 5,gd p 6,gd p 7,gd p 8,gd p 9,gd p 10,gd p 11,gd p 12,gd p 13,gd p 14]))=nd (iter (s_TownOkL2 N p) N [gd p 0,gd p 1,gd p 2,gd p 3,gd p 4,gd p 5,gd p 6,gd p 7,gd p 8,gd p 9,gd p 10,gd p 11,gd p 12,gd p 13,gd p 14,.i 0,.i 0,.i ((gd p 9).rows.length:Int),.i ((gd p 9).rows.length:Int),.i 0,gd p 0,gd p 1,gd p 2,gd p 3,gd p 4,gd p 5,gd p 6,gd p 7,gd p 8,gd p 9,gd p 10,gd p 11,gd p 12,gd p 13,gd p 14]).isSome (bif Out.code (iter (s_TownOkL2 N p) N [gd p 0,gd p 1,gd p 2,gd p 3,gd p 4,gd p 5,gd p 6,gd p 7,gd p 8,gd p 9,gd p 10,gd p 11,gd p 12,gd p 13,gd p 14,.i 0,.i 0,.i ((gd p 9).rows.length:Int),.i ((gd p 9).rows.length:Int),.i 0,gd p 0,gd p 1,gd p 2,gd p 3,gd p 4,gd p 5,gd p 6,gd p 7,gd p 8,gd p 9,gd p 10,gd p 11,gd p 12,gd p 13,gd p 14])==1 then some (1,Out.pay (iter (s_TownOkL2 N p) N [gd p 0,gd p 1,gd p 2,gd p 3,gd p 4,gd p 5,gd p 6,gd p 7,gd p 8,gd p 9,gd p 10,gd p 11,gd p 12,gd p 13,gd p 14,.i 0,.i 0,.i ((gd p 9).rows.length:Int),.i ((gd p 9).rows.length:Int),.i 0,gd p 0,gd p 1,gd p 2,gd p 3,gd p 4,gd p 5,gd p 6,gd p 7,gd p 8,gd p 9,gd p 10,gd p 11,gd p 12,gd p 13,gd p 14])) else nd (Out.code (iter (s_TownOkL2 N p) N [gd p 0,gd p 1,gd p 2,gd p 3,gd p 4,gd p 5,gd p 6,gd p 7,gd p 8,gd p 9,gd p 10,gd p 11,gd p 12,gd p 13,gd p 14,.i 0,.i 0,.i ((gd p 9).rows.length:Int),.i ((gd p 9).rows.length:Int),.i 0,gd p 0,gd p 1,gd p 2,gd p 3,gd p 4,gd p 5,gd p 6,gd p 7,gd p 8,gd p 9,gd p 10,gd p 11,gd p 12,gd p 13,gd p 14])==4) (s_TownOks0 N p (iter (s_TownOkL2 N p) N [gd p 0,gd p 1,gd p 2,gd p 3,gd p 4,gd p 5,gd p 6,gd p 7,gd p 8,gd p 9,gd p 10,gd p 11,gd p 12,gd p 13,gd p 14,.i 0,.i 0,.i ((gd p 9).rows.length:Int),.i ((gd p 9).rows.length:Int),.i 0,gd p 0,gd p 1,gd p 2,gd p 3,gd p 4,gd p 5,gd p 6,gd p 7,gd p 8,gd p 9,gd p 10,gd p 11,gd p 12,gd p 13,gd p 14]))) from by kernel_rfl]
 rw [s_TownOkI2 p N (by omega) (hl 13 (by simp))]
 cases shardA p 13 2 townC2
 ·rfl
 ·show s_TownOks0 N p (some (4,[gd p 0,gd p 1,gd p 2,gd p 3,gd p 4,gd p 5,gd p 6,gd p 7,gd p 8,gd p 9,gd p 10,gd p 11,gd p 12,gd p 13,gd p 14,.i 0,.i 0,.i ((gd p 9).rows.length:Int),.i ((gd p 9).rows.length:Int),.i ((gd p 13).rows.length:Int),gd p 0,gd p 1,gd p 2,gd p 3,gd p 4,gd p 5,gd p 6,gd p 7,gd p 8,gd p 9,gd p 10,gd p 11,gd p 12,gd p 13,gd p 14]))=ob (true&&(shardA p 14 4 townC4))
  rw [Bool.true_and]
  exact s_TownOkx0 p N hN hl
theorem s_TownOkx2 (p:List D) (N:Nat) (hN:((gd p 9).rows.length+(gd p 13).rows.length+(gd p 14).rows.length+1)≤N) (hl:∀ j,j ∈ [9,13,14]→(gd p j).rows.length≤9223372036854775807):s_TownOks2 N p=ob (shardA p 9 0 townC0&&(shardA p 13 2 townC2&&(shardA p 14 4 townC4))):=by
 rw [show s_TownOks2 N p=nd (iter (s_TownOkL0 N p) N [gd p 0,gd p 1,gd p 2,gd p 3,gd p 4,gd p 5,gd p 6,gd p 7,gd p 8,gd p 9,gd p 10,gd p 11,gd p 12,gd p 13,gd p 14,.i 0,.i 0,.i ((gd p 9).rows.length:Int),.i 0,gd p 0,gd p 1,gd p 2,gd p 3,gd p 4,gd p 5,gd p 6,gd p 7,gd p 8,gd p 9,gd p 10,gd p 11,gd p 12,gd p 13,gd p 14]).isSome (bif Out.code (iter (s_TownOkL0 N p) N [gd p 0,gd p 1,gd p 2,gd p 3,gd p 4,gd p 5,gd p 6,gd p 7,gd p 8,gd p 9,gd p 10,gd p 11,gd p 12,gd p 13,gd p 14,.i 0,.i 0,.i ((gd p 9).rows.length:Int),.i 0,gd p 0,gd p 1,gd p 2,gd p 3,gd p 4,gd p 5,gd p 6,gd p 7,gd p 8,gd p 9,gd p 10,gd p 11,gd p 12,gd p 13,gd p 14])==1 then some (1,Out.pay (iter (s_TownOkL0 N p) N [gd p 0,gd p 1,gd p 2,gd p 3,gd p 4,gd p 5,gd p 6,gd p 7,gd p 8,gd p 9,gd p 10,gd p 11,gd p 12,gd p 13,gd p 14,.i 0,.i 0,.i ((gd p 9).rows.length:Int),.i 0,gd p 0,gd p 1,gd p 2,gd p 3,gd p 4,gd p 5,gd p 6,gd p 7,gd p 8,gd p 9,gd p 10,gd p 11,gd p 12,gd p 13,gd p 14])) else nd (Out.code (iter (s_TownOkL0 N p) N [gd p 0,gd p 1,gd p 2,gd p 3,gd p 4,gd p 5,gd p 6,gd p 7,gd p 8,gd p 9,gd p 10,gd p 11,gd p 12,gd p 13,gd p 14,.i 0,.i 0,.i ((gd p 9).rows.length:Int),.i 0,gd p 0,gd p 1,gd p 2,gd p 3,gd p 4,gd p 5,gd p 6,gd p 7,gd p 8,gd p 9,gd p 10,gd p 11,gd p 12,gd p 13,gd p 14])==2) (s_TownOks1 N p (iter (s_TownOkL0 N p) N [gd p 0,gd p 1,gd p 2,gd p 3,gd p 4,gd p 5,gd p 6,gd p 7,gd p 8,gd p 9,gd p 10,gd p 11,gd p 12,gd p 13,gd p 14,.i 0,.i 0,.i ((gd p 9).rows.length:Int),.i 0,gd p 0,gd p 1,gd p 2,gd p 3,gd p 4,gd p 5,gd p 6,gd p 7,gd p 8,gd p 9,gd p 10,gd p 11,gd p 12,gd p 13,gd p 14]))) from by kernel_rfl]
 rw [s_TownOkI0 p N (by omega) (hl 9 (by simp))]
 cases shardA p 9 0 townC0
 ·rfl
 ·show s_TownOks1 N p (some (2,[gd p 0,gd p 1,gd p 2,gd p 3,gd p 4,gd p 5,gd p 6,gd p 7,gd p 8,gd p 9,gd p 10,gd p 11,gd p 12,gd p 13,gd p 14,.i 0,.i 0,.i ((gd p 9).rows.length:Int),.i ((gd p 9).rows.length:Int),gd p 0,gd p 1,gd p 2,gd p 3,gd p 4,gd p 5,gd p 6,gd p 7,gd p 8,gd p 9,gd p 10,gd p 11,gd p 12,gd p 13,gd p 14]))=ob (true&&(shardA p 13 2 townC2&&(shardA p 14 4 townC4)))
  rw [Bool.true_and]
  exact s_TownOkx1 p N hN hl
def s_TownOkE:Ent:=(17,e1 (ag rITown) fun p=>(⟨rb,[.b (townOk p)]⟩,true))
theorem s_TownOk_ok:EntOk Tryz.prog s_TownOkE:=e1_ok fun p h=>evFn_sound (N:=((gd p 9).rows.length+(gd p 13).rows.length+(gd p 14).rows.length+1)) (ks:=s_TownOkK) (key:=bo) s_TownOkT_ok (enters Tryz.func17) Tryz.func17 fun hw=>by
 rw [s_TownOk_ev]
 have hl:∀ j,j ∈ [9,13,14]→(gd p j).rows.length≤9223372036854775807:=by
  intro j hj
  simp only [List.mem_cons,List.not_mem_nil,or_false] at hj
  rcases hj with rfl | rfl | rfl <;> exact wt_at (hw ⟨ag rITown,p⟩ (by simp)) rfl
 refine congrArg (fun x=>some (bo,x)) ?_
 show s_TownOks7 ((gd p 9).rows.length+(gd p 13).rows.length+(gd p 14).rows.length+1) p=ob (townOk p)
 unfold s_TownOks7 s_TownOks6 s_TownOks5 s_TownOks4 s_TownOks3 townOk
 simp only [lt60,lt200]
 refine ob_step fun _=>?_
 refine ob_step fun _=>?_
 refine ob_step fun _=>?_
 refine ob_step fun _=>?_
 refine ob_step fun _=>?_
 refine ob_step fun _=>?_
 refine ob_step fun _=>?_
 refine ob_stepn ?_
 refine ob_stepn ?_
 refine ob_step fun _=>?_
 exact s_TownOkx2 p _ (Nat.le_refl _) hl
end Go.Proofs.YtecefnhhlaolmaaGreat
namespace Go.Proofs
open Go.Shelf
def Tryz.lays189_ren:Go.Shelf.Ren:=⟨fun | 189=>141 | 125=>197 | 257=>196 | 128=>232 | 129=>233 | 294=>223 | 295=>224 | 296=>225 | 297=>226 | 298=>227 | 299=>228 | 216=>229 | 300=>230 | 301=>231 | 328=>238 | 329=>239 | 330=>240 | 331=>241 | 332=>242 | 215=>243 | 343=>245 | n=>n,fun | 28=>32 | 3=>3 | 46=>196 | 0=>0 | 51=>219 | 53=>221 | 4=>4 | 183=>212 | 182=>211 | 131=>216 | 5=>5 | 9=>9 | 218=>224 | 222=>228 | 228=>231 | 229=>232 | n=>n,fun | n=>n⟩
theorem Tryz.lays189:Go.Proofs.Lays.n189 Tryz.prog Tryz.lays189_ren:={ mixed:=by kernel_rfl,f125:=Tryz.func197.trans (congrArg some (by kernel_rfl)),f128:=Tryz.func232.trans (congrArg some (by kernel_rfl)),f129:=Tryz.func233.trans (congrArg some (by kernel_rfl)),f189:=Tryz.func141.trans (congrArg some (by kernel_rfl)),f215:=Tryz.func243.trans (congrArg some (by kernel_rfl)),f216:=Tryz.func229.trans (congrArg some (by kernel_rfl)),f257:=Tryz.func196.trans (congrArg some (by kernel_rfl)),f294:=Tryz.func223.trans (congrArg some (by kernel_rfl)),f295:=Tryz.func224.trans (congrArg some (by kernel_rfl)),f296:=Tryz.func225.trans (congrArg some (by kernel_rfl)),f297:=Tryz.func226.trans (congrArg some (by kernel_rfl)),f298:=Tryz.func227.trans (congrArg some (by kernel_rfl)),f299:=Tryz.func228.trans (congrArg some (by kernel_rfl)),f300:=Tryz.func230.trans (congrArg some (by kernel_rfl)),f301:=Tryz.func231.trans (congrArg some (by kernel_rfl)),f328:=Tryz.func238.trans (congrArg some (by kernel_rfl)),f329:=Tryz.func239.trans (congrArg some (by kernel_rfl)),f330:=Tryz.func240.trans (congrArg some (by kernel_rfl)),f331:=Tryz.func241.trans (congrArg some (by kernel_rfl)),f332:=Tryz.func242.trans (congrArg some (by kernel_rfl)),f343:=Tryz.func245.trans (congrArg some (by kernel_rfl)),t0:=Tryz.underlying0,a0:=Tryz.isAgg0,z0:=Tryz.sizeOf0,v0:=Tryz.zeroValue0,t3:=Tryz.underlying3,a3:=Tryz.isAgg3,z3:=Tryz.sizeOf3,v3:=Tryz.zeroValue3,t4:=Tryz.underlying4,a4:=Tryz.isAgg4,z4:=Tryz.sizeOf4,v4:=Tryz.zeroValue4,t5:=Tryz.underlying5,a5:=Tryz.isAgg5,z5:=Tryz.sizeOf5,v5:=Tryz.zeroValue5,t9:=Tryz.underlying9,a9:=Tryz.isAgg9,z9:=Tryz.sizeOf9,v9:=Tryz.zeroValue9,t28:=Tryz.underlying32,a28:=Tryz.isAgg32,z28:=Tryz.sizeOf32,v28:=Tryz.zeroValue32,t46:=Tryz.underlying196,a46:=Tryz.isAgg196,z46:=Tryz.sizeOf196,v46:=Tryz.zeroValue196,t51:=Tryz.underlying219,a51:=Tryz.isAgg219,z51:=Tryz.sizeOf219,v51:=Tryz.zeroValue219,t53:=Tryz.underlying221,a53:=Tryz.isAgg221,z53:=Tryz.sizeOf221,v53:=Tryz.zeroValue221,t131:=Tryz.underlying216,a131:=Tryz.isAgg216,z131:=Tryz.sizeOf216,v131:=Tryz.zeroValue216,t182:=Tryz.underlying211,a182:=Tryz.isAgg211,z182:=Tryz.sizeOf211,v182:=Tryz.zeroValue211,t183:=Tryz.underlying212,a183:=Tryz.isAgg212,z183:=Tryz.sizeOf212,v183:=Tryz.zeroValue212,t218:=Tryz.underlying224,a218:=Tryz.isAgg224,z218:=Tryz.sizeOf224,v218:=Tryz.zeroValue224,t222:=Tryz.underlying228,a222:=Tryz.isAgg228,z222:=Tryz.sizeOf228,v222:=Tryz.zeroValue228,t228:=Tryz.underlying231,a228:=Tryz.isAgg231,z228:=Tryz.sizeOf231,v228:=Tryz.zeroValue231,t229:=Tryz.underlying232,a229:=Tryz.isAgg232,z229:=Tryz.sizeOf232,v229:=Tryz.zeroValue232 }
def Tryz.laysNm220_ren:Go.Shelf.Ren:=⟨fun | 20=>142 | n=>n,fun | 22=>32 | 3=>3 | 4=>4 | 0=>0 | n=>n,fun | n=>n⟩
theorem Tryz.laysNm220:Go.Proofs.Lays2.n20 Tryz.prog Tryz.laysNm220_ren:={ mixed:=by kernel_rfl,f20:=Tryz.func142.trans (congrArg some (by kernel_rfl)),t0:=Tryz.underlying0,a0:=Tryz.isAgg0,z0:=Tryz.sizeOf0,v0:=Tryz.zeroValue0,t3:=Tryz.underlying3,a3:=Tryz.isAgg3,z3:=Tryz.sizeOf3,v3:=Tryz.zeroValue3,t4:=Tryz.underlying4,a4:=Tryz.isAgg4,z4:=Tryz.sizeOf4,v4:=Tryz.zeroValue4,t22:=Tryz.underlying32,a22:=Tryz.isAgg32,z22:=Tryz.sizeOf32,v22:=Tryz.zeroValue32,i3:=by kernel_rfl }
def Tryz.laysNm215_ren:Go.Shelf.Ren:=⟨fun | 15=>143 | n=>n,fun | 22=>32 | 3=>3 | 4=>4 | n=>n,fun | n=>n⟩
theorem Tryz.laysNm215:Go.Proofs.Lays2.n15 Tryz.prog Tryz.laysNm215_ren:={ mixed:=by kernel_rfl,f15:=Tryz.func143.trans (congrArg some (by kernel_rfl)),t3:=Tryz.underlying3,a3:=Tryz.isAgg3,z3:=Tryz.sizeOf3,v3:=Tryz.zeroValue3,t4:=Tryz.underlying4,a4:=Tryz.isAgg4,z4:=Tryz.sizeOf4,v4:=Tryz.zeroValue4,t22:=Tryz.underlying32,a22:=Tryz.isAgg32,z22:=Tryz.sizeOf32,v22:=Tryz.zeroValue32,i3:=by kernel_rfl }
def Tryz.growI_ren:Go.Shelf.Ren:=⟨fun | 4=>193 | n=>n,fun | 22=>32 | 25=>3 | 3=>3 | 4=>4 | 9=>9 | 20=>20 | 0=>0 | n=>n,fun | n=>n⟩
theorem Tryz.growI:Go.Proofs.Lays8.n4 Tryz.prog Tryz.growI_ren:={ mixed:=by kernel_rfl,f4:=⟨Tryz.f193.name,by decide,Tryz.func193.trans (congrArg some (by kernel_rfl))⟩,t0:=Tryz.underlying0,a0:=Tryz.isAgg0,z0:=Tryz.sizeOf0,v0:=Tryz.zeroValue0,t3:=Tryz.underlying3,a3:=Tryz.isAgg3,z3:=Tryz.sizeOf3,v3:=Tryz.zeroValue3,t4:=Tryz.underlying4,a4:=Tryz.isAgg4,z4:=Tryz.sizeOf4,v4:=Tryz.zeroValue4,t9:=Tryz.underlying9,a9:=Tryz.isAgg9,z9:=Tryz.sizeOf9,v9:=Tryz.zeroValue9,t20:=Tryz.underlying20,a20:=Tryz.isAgg20,z20:=Tryz.sizeOf20,v20:=Tryz.zeroValue20,t22:=Tryz.underlying32,a22:=Tryz.isAgg32,z22:=Tryz.sizeOf32,v22:=Tryz.zeroValue32 }
end Go.Proofs
namespace Go.Proofs.YtecefnhhlaolmaaGreat
open Go.RowKit (Below)
def numsOf (z:D):List Int:=z.rows.map fun r=>(gd r 0).int
def numsD (xs:List Int):D:=.l (xs.map fun n => [.i n])
def sortL (xs:List Int):List Int:=xs.mergeSort fun x y=>decide (x≤y)
def sortD (z:D):D:=numsD (sortL (numsOf z))
def compD (z:D):D:=numsD (Lib.compact (numsOf z))
theorem numsOf_len (z:D):(numsOf z).length=z.rows.length:=by simp [numsOf]
theorem numsD_rows (xs:List Int):(numsD xs).rows=xs.map fun n => [.i n]:=rfl
theorem numsD_len (xs:List Int):(numsD xs).rows.length=xs.length:=by simp [numsD,D.rows]
theorem numsD_at (xs:List Int) (i:Nat) (h:i<xs.length):(gd ((numsD xs).rows.getD i []) 0).int=xs[i]:=by
 rw [numsD_rows,List.getD_eq_getElem?_getD,List.getElem?_map,List.getElem?_eq_getElem h]
 rfl
theorem numsOf_at (z:D) (i:Nat) (h:i<z.rows.length):(numsOf z)[i]?=some (gd (z.rows.getD i []) 0).int:=by
 simp [numsOf,List.getD_eq_getElem?_getD,List.getElem?_eq_getElem h]
theorem numsOf_numsD (xs:List Int):numsOf (numsD xs)=xs:=by
 unfold numsOf
 rw [numsD_rows,List.map_map]
 have:((fun r=>(gd r 0).int) ∘ fun n:Int => [D.i n])=id:=by funext n; rfl
 rw [this,List.map_id]
theorem sortL_len (xs:List Int):(sortL xs).length=xs.length:=List.length_mergeSort xs
theorem comp_le (xs:List Int):(Lib.compact xs).length≤xs.length:=by
 unfold Lib.compact Lib.compactUpTo
 rw [List.length_map]
 exact Nat.le_trans (List.length_filter_le _ _) (by simp)
theorem writ_put {w:World} {b n:Nat} {arr:Array Value} {e:TypeId} {d:Array Int} {os:Array Obj} {rows:List (List D)} (hh:w.heap[b]?=some (.cells arr e (0,0))) (hd:d.size≤arr.size)
  (hr:∀ i,i<rows.length→i<d.size∧d[i]! = (gd (rows.getD i []) 0).int):Writ b e arr rows w (Go.Sort.grow (Go.Sort.putRow (Value.int .i64) (Go.Sort.ahead w n) b 0 d) os):=by
 have hb:=lt_of_heap hh
 have h1:(Go.Sort.grow (Go.Sort.putRow (Value.int .i64) (Go.Sort.ahead w n) b 0 d) os).heap=w.heap.modify b (Go.Sort.onCells (Go.Sort.putCells (Value.int .i64) 0 d))++os:=rfl
 have h2:∀ k,k<w.heap.size→(Go.Sort.grow (Go.Sort.putRow (Value.int .i64) (Go.Sort.ahead w n) b 0 d) os).heap[k]?=if b=k then (w.heap[k]?).map (Go.Sort.onCells (Go.Sort.putCells (Value.int .i64) 0 d)) else w.heap[k]?:=fun k hk=>by
  rw [h1,Array.getElem?_append_left (by simpa using hk),Array.getElem?_modify]
 refine ⟨⟨rfl,rfl,rfl,by rw [h1]; simp,fun k hk=>by omega⟩,fun k hk hne=>by rw [h2 k hk,if_neg (Ne.symm hne)],Go.Sort.putCells (Value.int .i64) 0 d arr,?_,?_,?_⟩
 ·rw [h2 b hb,if_pos rfl,hh]; rfl
 ·simp [Go.Sort.putCells]
 ·intro i hi
  obtain ⟨q1,q2⟩:=hr i hi
  have hlt:i<arr.size:=by omega
  unfold Go.Sort.putCells
  rw [Array.getElem?_mapIdx,Array.getElem?_eq_getElem hlt]
  rw [getElem!_pos d i q1] at q2
  simp only [← q2]
  simp [q1]
theorem holds_nums {w:World} {b:Nat} {arr:Array Value} {e:TypeId} {x:D} (hh:w.heap[b]?=some (.cells arr e (0,0))) (hle:x.rows.length≤arr.size) (hc:∀ i,i<x.rows.length→arr[i]?=some (.int .i64 (gd (x.rows.getD i []) 0).int)) :
  Go.Sort.Holds (Value.int .i64) w b 0 (numsOf x).toArray:=by
 intro j hj
 have hj:j<x.rows.length:=by simpa [numsOf] using hj
 refine ⟨?_,?_⟩
 ·have e1:(numsOf x).toArray[j]! = (gd (x.rows.getD j []) 0).int:=by
   have:=numsOf_at x j hj
   simp [getElem!_def,this]
  rw [e1]
  simp only [World.cell?,hh,Nat.zero_add]
  exact hc j hj
 ·simp [World.frozen?,hh]
def i_sortE:Ent:=(141,e1 (sd (.sl 3)) fun p=>(⟨.tup [.c .any],[sortD (gd p 0)]⟩,leI ((gd p 0).rows.length:Int) 1000000000))
theorem i_sort_ok:EntOk Tryz.prog i_sortE:=e1_ok fun p h=>by
 have h:leI ((gd p 0).rows.length:Int) 1000000000=true:=h
 simp only [leI,decide_eq_true_eq] at h
 refine SoundFn.ofW rfl ⟨enters Tryz.func141 (by kernel_rfl) (by kernel_rfl),fun e x he hrow=>?_⟩
 injection he with he _
 injection he with he hp
 injection he with he
 injection he with he
 injection he with he
 injection he with he
 subst he
 subst hp
 have hx:gd [x] 0=x:=rfl
 rw [hx] at h
 refine ⟨fun h0=>⟨?_,fun A w=>?_⟩,fun w b cap arr hh hsz hle hc hnum=>⟨?_,fun _=>?_,?_⟩⟩
 ·show (sortD x).rows = []
  have:numsOf x = []:=by unfold numsOf; rw [h0]; rfl
  exact List.eq_nil_of_length_eq_zero (by rw [sortD,numsD_len,sortL_len,this]; rfl)
 ·refine (Any.slices_Sort_int_none Tryz.lays189 A 0 w).mono ?_
  rintro ex w' ⟨rfl,rfl⟩
  exact ⟨rfl,Below.refl _ _⟩
 ·show (sortD x).rows.length≤_
  rw [sortD,numsD_len,sortL_len,numsOf_len]
  exact Nat.le_refl _
 ·show (sortD x).rows.length=_
  rw [sortD,numsD_len,sortL_len,numsOf_len]
 ·have hl:=numsOf_len x
  have hs:=Any.slices_Sort_int Tryz.lays189 b 0 cap (numsOf x) w (holds_nums hh (by omega) hnum) (lt_of_heap hh) (by omega)
  rw [hl] at hs
  refine hs.mono ?_
  rintro ex w' ⟨rfl,n,os,rfl⟩
  refine ⟨rfl,writ_put hh (by simp [hl]; omega) fun i hi=>?_⟩
  have hi:i<(sortL (numsOf x)).length:=by
   have hi:i<(sortD x).rows.length:=hi
   rwa [sortD,numsD_len] at hi
  refine ⟨by simpa [sortL] using hi,?_⟩
  show _=(gd ((sortD x).rows.getD i []) 0).int
  rw [sortD,numsD_at _ _ hi]
  have hi':i<((numsOf x).mergeSort fun x y=>decide (x≤y)).length:=hi
  simp [getElem!_def,List.getElem?_eq_getElem hi',sortL]
def i_compE:Ent:=(142,e1 (sd (.sl 3)) fun p=>(⟨.tup [.agg []],[compD (gd p 0)]⟩,leI ((gd p 0).rows.length:Int) 1000000000))
theorem i_comp_ok:EntOk Tryz.prog i_compE:=e1_ok fun p h=>by
 have h:leI ((gd p 0).rows.length:Int) 1000000000=true:=h
 simp only [leI,decide_eq_true_eq] at h
 refine SoundFn.ofW rfl ⟨enters Tryz.func142 (by kernel_rfl) (by kernel_rfl),fun e x he hrow=>?_⟩
 injection he with he _
 injection he with he hp
 injection he with he
 injection he with he
 injection he with he
 injection he with he
 subst he
 subst hp
 have hx:gd [x] 0=x:=rfl
 rw [hx] at h
 have hcl:∀ x:D,(compD x).rows.length=(Lib.compact (numsOf x)).length:=fun x=>numsD_len _
 refine ⟨fun h0=>⟨?_,fun A w=>?_⟩,fun w b cap arr hh hsz hle hc hnum=>⟨?_,?_,?_⟩⟩
 ·show (compD x).rows = []
  have:numsOf x = []:=by unfold numsOf; rw [h0]; rfl
  unfold compD
  rw [this]; rfl
 ·refine (Any.slices_Compact_int_empty Tryz.laysNm220 A 0 w).mono ?_
  rintro ex w' ⟨rfl,rfl⟩
  exact ⟨rfl,Below.refl _ _⟩
 ·show (compD x).rows.length≤_
  rw [hcl,← numsOf_len]
  exact comp_le _
 ·rintro ⟨c,hc⟩
  cases hc
 ·have hl:=numsOf_len x
  have hcle:=comp_le (numsOf x)
  have hs:=Any.slices_Compact_int Tryz.laysNm220 b 0 cap (numsOf x) w (holds_nums hh (by omega) hnum) (by omega) (by omega)
  rw [hl] at hs
  refine hs.mono ?_
  rintro ex w' ⟨rfl,n,rfl⟩
  refine ⟨?_,?_⟩
  ·show _=Ending.returned (.slice (some ⟨b,0,none⟩) (compD x).rows.length cap)
   rw [hcl]
  ·have:=writ_put (os:= #[]) (n:=n) (rows:=(compD x).rows) (d:=(Lib.compact (numsOf x)++List.replicate (x.rows.length - (Lib.compact (numsOf x)).length) 0).toArray) hh (by simp; omega) fun i hi=>?_
   ·rw [Go.Sort.grow_empty] at this
    exact this
   ·rw [hcl] at hi
    refine ⟨by simp; omega,?_⟩
    rw [compD,numsD_at _ _ hi]
    simp [getElem!_def,List.getElem?_append_left hi,List.getElem?_eq_getElem hi]
theorem res_own {P:Program} {prot:Nat→Nat} {w w':World} {e:TypeId} {x:D} {v:Value} (hrow:rowOf P e=some [.int .i64]) (hfr:∀ b,w.heap.size≤b→prot b=0) (hb:Below w.heap.size w w') (ho:w'.ownsRow w.heap.size e 1 v x.rows.length ((numsOf x).map (Value.int .i64))) :
  ∃ g',Res P prot w w' ⟨.one (.c (.own (0,0) true e)),[x]⟩ v g':=by
 obtain ⟨hl,⟨rfl,h0⟩ | ⟨blk,cap,cur,rfl,hblk,hh,hcap,hmax,hsz,htk⟩⟩:=ho
 ·exact ⟨g0 0 prot,hb,⟨[.int .i64],hrow,.inl ⟨List.eq_nil_of_length_eq_zero h0,rfl,none,rfl⟩⟩,fun _ _=>rfl,fun b hb'=>⟨hfr b (Nat.le_trans hb.size hb'),rfl⟩⟩
 ·refine ⟨⟨prot,fun b=>if b=blk then some (.inr (0,0)) else none,fun _=>0,fun _=>blk,fun _=>x.rows.length,fun _=>1,fun _=>e,fun _ => [],fun _=>0,fun _=>False⟩,hb,⟨[.int .i64],hrow,.inr ⟨cap,cur,e,rfl,hcap,⟨by unfold maxLen at hmax; omega,rfl,rfl⟩,hblk,if_pos rfl,hh,by simpa using hsz,rfl,rfl,?_,?_⟩⟩,fun _ _=>rfl,fun b hb'=>⟨hfr b (Nat.le_trans hb.size hb'),?_⟩⟩
  ·show prot blk=0
   exact hfr blk hblk
  ·intro i j s hi hs
   have hi:i<x.rows.length:=hi
   match j,hs with
   | 0,hs =>
    injection hs with hs
    subst hs
    refine ⟨.int .i64 (gd (x.rows.getD i []) 0).int,?_,.of_vd (.int .i64 _) (.inr rfl)⟩
    have e1:(cur.toList.take (x.rows.length*1))[i]?=some (Value.int .i64 (gd (x.rows.getD i []) 0).int):=by
     rw [htk,List.getElem?_map,numsOf_at x i hi]; rfl
    rw [List.getElem?_take,if_pos (by omega)] at e1
    simpa using e1
  ·have:=lt_of_heap hh
   exact if_neg (by omega)
def i_clonE:Ent:=(143,e1 (sd (.sl 3)) fun p=>(⟨.one (.c (.own (0,0) true 3)),[.l (gd p 0).rows]⟩,leI ((gd p 0).rows.length:Int) 1000000000))
theorem i_clon_ok:EntOk Tryz.prog i_clonE:=e1_ok fun p h=>by
 have h:leI ((gd p 0).rows.length:Int) 1000000000=true:=h
 simp only [leI,decide_eq_true_eq] at h
 have hrow:rowOf Tryz.prog 3=some [.int .i64]:=by kernel_rfl
 refine SoundFn.of rfl ⟨enters Tryz.func143 (by kernel_rfl) (by kernel_rfl),fun w prot vs hargs hfr=>?_⟩
 obtain ⟨u,hu,hv⟩:=hargs.2 0 _ rfl
 have hvs:vs = #[u]:=by
  have hs:vs.size=1:=hargs.1
  refine Array.ext (by simpa using hs) fun i h1 h2=>?_
  have:i=0:=by omega
  subst this
  rw [Array.getElem?_eq_getElem h1] at hu
  injection hu
 subst hvs
 have hv:VD Tryz.prog w prot (.sl 3) (gd p 0) u:=hv
 generalize gd p 0=x at *
 cases hv with
 | sl e d A c row uu hr h1 h2 h3 h4 =>
  rw [hrow] at hr
  injection hr with hr
  subst hr
  cases A with
  | none =>
   have h0:x.rows.length=0:=by
    rcases Nat.eq_zero_or_pos x.rows.length with h' | h'
    ·exact h'
    ·obtain ⟨b,o,hA,_⟩:=h3 0 0 h' (by decide)
     cases hA
   have hx0:x.rows = []:=List.eq_nil_of_length_eq_zero h0
   refine (Any.slices_Clone_int_nil Tryz.laysNm215 x.rows.length c w).mono ?_
   rintro ex w' ⟨rfl,rfl⟩
   obtain ⟨g',hg⟩:=res_own (x:=x) (prot:=prot) (w:=w') (w':=w') hrow hfr (Below.refl _ _) (v:=.slice none 0 0) ⟨by simp [numsOf],.inl ⟨rfl,h0⟩⟩
   exact ⟨_,g',rfl,hg.below,hg.val,hg.prot,hg.fresh⟩
  | some ad =>
   rcases Nat.eq_zero_or_pos x.rows.length with h0 | hpos
   ·have hx0:x.rows = []:=List.eq_nil_of_length_eq_zero h0
    rw [h0]
    refine (Any.slices_Clone_int_zero Tryz.laysNm215 ad c w).mono ?_
    rintro ex w' ⟨v',rfl,hown,_,hbel⟩
    obtain ⟨g',hg⟩:=res_own (x:=x) (prot:=prot) hrow hfr hbel (v:=v') (by
     have e1:numsOf x = []:=by unfold numsOf; rw [hx0]; rfl
     rw [h0,e1]; exact hown)
    exact ⟨_,g',rfl,hg.below,hg.val,hg.prot,hg.fresh⟩
   ·obtain ⟨b,o,hA,_⟩:=h3 0 0 hpos (by decide)
    injection hA with hA
    subst hA
    have hl:=numsOf_len x
    refine (Any.slices_Clone_int Tryz.laysNm215 b o x.rows.length c (numsOf x) w (by omega) (by omega) (fun j hj=>?_)).mono ?_
    ·have hj:j<x.rows.length:=by rw [← hl]; exact hj
     obtain ⟨b',o',hA,hc,_⟩:=h3 j 0 hj (by decide)
     simp only [Option.some.injEq,Addr.mk.injEq] at hA
     obtain ⟨rfl,rfl,_⟩:=hA
     have hvv:=h4 j 0 (.int .i64) hj rfl
     generalize uu j 0=uv at *
     cases hvv
     have e1:(numsOf x).getD j 0=(gd (x.rows.getD j []) 0).int:=by
      rw [List.getD_eq_getElem?_getD,numsOf_at x j hj]; rfl
     rw [e1]
     simpa using hc
    ·rintro ex w' ⟨v',rfl,hown,_,hbel⟩
     obtain ⟨g',hg⟩:=res_own (x:=x) (prot:=prot) hrow hfr hbel (v:=v') (by
      rw [List.take_of_length_le (by omega)] at hown; exact hown)
     exact ⟨_,g',rfl,hg.below,hg.val,hg.prot,hg.fresh⟩
def i_growE:Ent:=(193,e2 (.one (.c (.own (0,0) true 3))) ri fun p q=>(⟨.one (.c (.own (0,0) true 3)),[.l []]⟩,leI 0 (gd q 0).int&&leI (gd q 0).int 1000000000))
theorem i_grow_ok:EntOk Tryz.prog i_growE:=e2_ok fun p q h=>by
 have h:(leI 0 (gd q 0).int&&leI (gd q 0).int 1000000000)=true:=h
 simp only [Bool.and_eq_true,leI,decide_eq_true_eq] at h
 have hrow:rowOf Tryz.prog 3=some [.int .i64]:=by kernel_rfl
 refine SoundFn.of rfl ⟨enters Tryz.func193 (by kernel_rfl) (by kernel_rfl),fun w prot vs hargs hfr=>?_⟩
 obtain ⟨u,hu,hv⟩:=hargs.2 0 _ rfl
 obtain ⟨u1,hu1,hv1⟩:=hargs.2 1 _ rfl
 have hvs:vs = #[u,u1]:=by
  have hs:vs.size=2:=hargs.1
  refine Array.ext (by simpa using hs) fun i h1 h2=>?_
  have:i=0∨i=1:=by omega
  rcases this with rfl | rfl
  ·rw [Array.getElem?_eq_getElem h1] at hu
   injection hu
  ·rw [Array.getElem?_eq_getElem h1] at hu1
   injection hu1
 subst hvs
 have hv1:VD Tryz.prog w prot (.int .i64) (gd q 0) u1:=hv1
 obtain ⟨row,_,hown⟩:=hv
 generalize gd q 0=y at *
 cases hv1
 rcases hown with ⟨_,_,A,rfl⟩ | ⟨_,_,_,_,_,_,_,ho,_⟩
 ·obtain ⟨n,hn⟩:∃ n:Nat,y.int=n:=⟨y.int.toNat,by omega⟩
  rw [hn]
  rcases Nat.eq_zero_or_pos n with rfl | hpos
  ·refine (Any8.slices_Grow_room Tryz.growI A 0 0 0 w (by omega) (by omega) (by omega) (by omega)).mono ?_
   rintro ex w' ⟨rfl,rfl⟩
   exact ⟨_,g0 0 prot,rfl,Below.refl _ _,⟨[.int .i64],hrow,.inl ⟨rfl,rfl,A,rfl⟩⟩,fun _ _=>rfl,fun b hb'=>⟨hfr b hb',rfl⟩⟩
  ·obtain ⟨i0,hi0,hz0,hs0,hby⟩:=info_parts (P:=Tryz.prog) (e:=3) (z:=.int .i64 0) (size:=1) (bytes:=8) (by kernel_rfl)
   obtain ⟨z,hz⟩:∃ z,z=Value.int .i64 0:=⟨_,rfl⟩
   have hzc:z.cells.size=1:=by rw [hz]; rfl
   rw [← hz] at hz0
   refine (Any8.slices_Grow_grow Tryz.growI i0 z hi0 hz0 (by omega) A 0 0 n [] w (by omega) (by omega) (by rw [hby]; omega) (by omega) (by simp) (fun _=>rfl) (fun a _ j v hj=>by simp at hj)).mono ?_
   rintro ex w' ⟨rfl,rfl⟩
   have hge:=grownCap_ge w (0+n) 0 3
   have hcm:=grownCap_le_maxLen w (0+n) 0 3 (by unfold maxLen; omega)
   obtain ⟨g',hg⟩:=res_own (x:=.l []) (prot:=prot) (w:=w) (w':=w.drew.alloc (.cells ((#[]:Array Value)++Builtin.zeroCells z.cells (0+n - 0)++Builtin.zeroCells z.cells (grownCap w (0+n) 0 3 - (0+n))) 3)) hrow hfr
    ⟨rfl,rfl,rfl,by simp,fun k hk=>Below.heap_alloc w.drew _ k hk⟩ (v:=.slice (some ⟨w.heap.size,0,none⟩) 0 (grownCap w (0+n) 0 3)) ⟨rfl,.inr ⟨w.heap.size,_,_,rfl,Nat.le_refl _,(by letI:Low:=noLow; exact heap_new w.drew _),Nat.zero_le _,hcm,(by simp only [Nat.zero_add] at hge; simp [size_zeroCells,hzc]; omega),rfl⟩⟩
   exact ⟨_,g',rfl,hg⟩
 ·cases ho
theorem keeps_iff (ys:List Int) (hs:ys.Pairwise (· ≤ ·)):(∀ j,j<ys.length→Lib.keeps ys.toArray j=true)↔ys.Nodup:=by
 have hle:∀ i j (hi:i<ys.length) (hj:j<ys.length),i≤j→ys[i]≤ys[j]:=by
  intro i j hi hj h
  rcases Nat.lt_or_ge i j with h | h
  ·exact List.pairwise_iff_getElem.1 hs i j hi hj h
  ·have:i=j:=by omega
   subst this; exact Int.le_refl _
 have hk:∀ j (hj:j<ys.length),j≠0→(Lib.keeps ys.toArray j=true↔ys[j]≠ys[j - 1]):=by
  intro j hj h0
  have hj1:j - 1<ys.length:=by omega
  simp [Lib.keeps,h0,getElem!_def,List.getElem?_eq_getElem hj,List.getElem?_eq_getElem hj1]
 constructor
 ·intro h
  refine List.pairwise_iff_getElem.2 fun i j hi hj hij=>?_
  have h1:=(hk j hj (by omega)).1 (h j hj)
  have h2:=hle i (j - 1) hi (by omega) (by omega)
  have h3:=hle (j - 1) j (by omega) hj (by omega)
  omega
 ·intro h j hj
  by_cases h0:j=0
  ·subst h0; simp [Lib.keeps]
  ·refine (hk j hj h0).2 ?_
   have:=List.pairwise_iff_getElem.1 h (j - 1) j (by omega) hj (by omega)
   exact fun e=>this e.symm
theorem comp_len (ys:List Int) (hs:ys.Pairwise (· ≤ ·)):((Lib.compact ys).length=ys.length)↔ys.Nodup:=by
 rw [← keeps_iff ys hs]
 unfold Lib.compact Lib.compactUpTo
 rw [List.length_map]
 have h:=List.length_filter_eq_length_iff (l:=List.range ys.length) (p:=Lib.keeps ys.toArray)
 rw [List.length_range] at h
 rw [h]
 simp
theorem sortL_pair (xs:List Int):(sortL xs).Pairwise (· ≤ ·):=by
 have h:=List.pairwise_mergeSort (le:=fun x y:Int=>decide (x≤y)) (by intro a b c h1 h2; simp only [decide_eq_true_eq] at *; omega) (by intro a b; simp only [Bool.or_eq_true,decide_eq_true_eq]; omega) xs
 exact h.imp fun h=>by simpa using h
theorem comp_sort (z:D):(compD (sortD z)).rows.length=(sortD z).rows.length↔(numsOf z).Nodup:=by
 unfold compD
 rw [numsD_len]
 unfold sortD
 rw [numsOf_numsD,numsD_len,comp_len _ (sortL_pair _)]
 exact (List.mergeSort_perm (numsOf z) _).nodup_iff
end Go.Proofs.YtecefnhhlaolmaaGreat
namespace Go.Proofs.YtecefnhhlaolmaaGreat
set_option maxRecDepth 4096
set_option maxHeartbeats 1000000
abbrev i_ConcatT:FuncId→List T→Option (T × Bool):=find [i_growE]
theorem i_ConcatT_ok:CallOk Tryz.prog i_ConcatT:=find_ok (fC ⟨i_grow_ok,fN⟩)
abbrev i_ConcatK:List Nat:= [0,2,3,5,6,8,9,10,11,12,20,25,26,27,28]
noncomputable def i_ConcatL0 (N:Nat) (p:List D):List D→Out:=loopOf Tryz.prog i_ConcatT N i_ConcatK Tryz.f135 (.one (.c (.own (0,0) true 3))) [⟨sd (.sl 32),p⟩] 0
noncomputable def i_ConcatL2 (N:Nat) (p:List D):List D→Out:=loopOf Tryz.prog i_ConcatT N i_ConcatK Tryz.f135 (.one (.c (.own (0,0) true 3))) [⟨sd (.sl 32),p⟩] 2
theorem i_ConcatR0 (N:Nat) (p:List D) (x0 x1 x2 x3 x4 x5:D):(i_ConcatL0 N p) [x0,x1,x2,x3,x4,x5] =
 bif ltI x5.int x4.int then nd (inRange x5.int x3.rows.length) (bif ltI (w64 (x2.int+((gd (x3.rows.getD x5.int.toNat []) 0).rows.length:Int))) 0 then nd false (nd false (nx [x0,x1,.i (w64 (x2.int+((gd (x3.rows.getD x5.int.toNat []) 0).rows.length:Int))),x3,x4,.i (w64 (x5.int+1))]))
 else nx [x0,x1,.i (w64 (x2.int+((gd (x3.rows.getD x5.int.toNat []) 0).rows.length:Int))),x3,x4,.i (w64 (x5.int+1))])
 else ex 0 [x0,x1,x2,x3,x4,x5]:=by kernel_rfl
theorem i_ConcatR2 (N:Nat) (p:List D) (x0 x1 x2 x3 x4 x5 x6 x7 x8 x9:D):(i_ConcatL2 N p) [x0,x1,x2,x3,x4,x5,x6,x7,x8,x9] =
 bif ltI x9.int x8.int then nd (inRange x9.int x7.rows.length) (nd (lenOk (x6.rows++(gd (x7.rows.getD x9.int.toNat []) 0).rows)&&true) (nx [x0,x1,x2,x3,x4,x5,.l (x6.rows++(gd (x7.rows.getD x9.int.toNat []) 0).rows),x7,x8,.i (w64 (x9.int+1))]))
 else ex 2 [x0,x1,x2,x3,x4,x5,x6,x7,x8,x9]:=by kernel_rfl
theorem i_Concat_ev (N:Nat) (p:List D):evFn Tryz.prog i_ConcatT N i_ConcatK Tryz.f135 (.one (.c (.own (0,0) true 3))) [⟨sd (.sl 32),p⟩]=some (bo,
 (let o0:=iter (i_ConcatL0 N p) N [gd p 0,.l [],.i 0,gd p 0,.i ((gd p 0).rows.length:Int),.i 0]
  nd o0.isSome (nd (o0.code==2) (nd (leI 0 (gd o0.pay 2).int&&leI (gd o0.pay 2).int 1000000000) ((let o2:=iter (i_ConcatL2 N p) N [gd o0.pay 0,gd o0.pay 1,gd o0.pay 2,gd o0.pay 3,gd o0.pay 4,gd o0.pay 5,.l [],gd o0.pay 0,.i ((gd o0.pay 0).rows.length:Int),.i 0]
  nd o2.isSome (nd (o2.code==4) (some (1,[gd o2.pay 6]))))))))):=by kernel_rfl
def concD (x:D):D:=.l ((gd (x.rows.getD 0 []) 0).rows++(gd (x.rows.getD 1 []) 0).rows)
def concOk (x:D):Bool:=x.rows.length==2&&(leI ((gd (x.rows.getD 0 []) 0).rows.length:Int) 100000000&&leI ((gd (x.rows.getD 1 []) 0).rows.length:Int) 100000000)
theorem iter_nx {L:List D→Out} {n:Nat} {p q:List D} (h:L p=nx q):iter L (n+1) p=iter L n q:=by
 show (match L p with | some (0,p')=>iter L n p' | o=>o)=_
 rw [h]; rfl
theorem iter_ex {L:List D→Out} {n c:Nat} {p q:List D} (h:L p=some (c+1,q)):iter L (n+1) p=some (c+1,q):=by
 show (match L p with | some (0,p')=>iter L n p' | o=>o)=_
 rw [h]; rfl
def i_ConcatE:Ent:=(135,e1 (sd (.sl 32)) fun p=>(⟨.one (.c (.own (0,0) true 3)),[concD (gd p 0)]⟩,concOk (gd p 0)))
theorem i_Concat_ok:EntOk Tryz.prog i_ConcatE:=e1_ok fun p h=>evFn_sound (N:=3) (ks:=i_ConcatK) (key:=bo) i_ConcatT_ok (enters Tryz.func135) Tryz.func135 fun hw=>by
 rw [i_Concat_ev]
 have h:concOk (gd p 0)=true:=h
 unfold concOk at h
 simp only [Bool.and_eq_true,leI,decide_eq_true_eq,beq_iff_eq] at h
 obtain ⟨hl,h0,h1⟩:=h
 have hlen:∀ k,k<(gd p 0).rows.length→((gd ((gd p 0).rows.getD k []) 0).rows.length:Int)≤100000000:=fun k hk=>by
  have:k=0∨k=1:=by omega
  rcases this with rfl | rfl <;> assumption
 have s0:∀ (k:Nat) (s:Int),k<(gd p 0).rows.length→0≤s→s≤100000000→i_ConcatL0 3 p [gd p 0,.l [],.i s,gd p 0,.i ((gd p 0).rows.length:Int),.i (k:Int)]=nx [gd p 0,.l [],.i (s+((gd ((gd p 0).rows.getD k []) 0).rows.length:Int)),gd p 0,.i ((gd p 0).rows.length:Int),.i ((k+1:Nat):Int)]:=fun k s hk hs1 hs2=>by
  have:=hlen k hk
  rw [i_ConcatR0]
  simp only [int_i,c_lt hk,nd_ix hk,Int.toNat_natCast]
  rw [w64_id (by omega) (by omega),ltI_f (by omega),cond_false,w64_succ hk (by omega)]
 have s2:∀ (k:Nat) (x2 x3 x4 x5:D) (rs:List (List D)),k<(gd p 0).rows.length→rs.length≤100000000→i_ConcatL2 3 p [gd p 0,.l [],x2,x3,x4,x5,.l rs,gd p 0,.i ((gd p 0).rows.length:Int),.i (k:Int)]=nx [gd p 0,.l [],x2,x3,x4,x5,.l (rs++(gd ((gd p 0).rows.getD k []) 0).rows),gd p 0,.i ((gd p 0).rows.length:Int),.i ((k+1:Nat):Int)]:=fun k x2 x3 x4 x5 rs hk hrs=>by
  have:=hlen k hk
  rw [i_ConcatR2]
  simp only [int_i,rows_l,c_lt hk,nd_ix hk,Int.toNat_natCast]
  rw [lenOk_t (by rw [List.length_append]; omega),w64_succ hk (by omega)]
  rfl
 have e0:iter (i_ConcatL0 3 p) 3 [gd p 0,.l [],.i 0,gd p 0,.i ((gd p 0).rows.length:Int),.i 0]=some (2,[gd p 0,.l [],.i (0+((gd ((gd p 0).rows.getD 0 []) 0).rows.length:Int)+((gd ((gd p 0).rows.getD 1 []) 0).rows.length:Int)),gd p 0,.i ((gd p 0).rows.length:Int),.i ((gd p 0).rows.length:Int)]):=by
  refine Eq.trans (iter_nx (n:=2) (s0 0 0 (by omega) (by omega) (by omega))) (Eq.trans (iter_nx (n:=1) (s0 1 _ (by omega) (by omega) (by omega))) ?_)
  have e:((1+1:Nat):Int)=((gd p 0).rows.length:Int):=by omega
  rw [e]
  refine iter_ex (c:=1) ?_
  rw [i_ConcatR0]
  simp only [int_i,c_nlt]
 have e2:∀ (x2 x3 x4 x5:D),iter (i_ConcatL2 3 p) 3 [gd p 0,.l [],x2,x3,x4,x5,.l [],gd p 0,.i ((gd p 0).rows.length:Int),.i 0]=some (4,[gd p 0,.l [],x2,x3,x4,x5,.l ([]++(gd ((gd p 0).rows.getD 0 []) 0).rows++(gd ((gd p 0).rows.getD 1 []) 0).rows),gd p 0,.i ((gd p 0).rows.length:Int),.i ((gd p 0).rows.length:Int)]):=fun x2 x3 x4 x5=>by
  refine Eq.trans (iter_nx (n:=2) (s2 0 x2 x3 x4 x5 [] (by omega) (by simp))) (Eq.trans (iter_nx (n:=1) (s2 1 x2 x3 x4 x5 _ (by omega) (by have:=hlen 0 (by omega); rw [List.nil_append]; omega))) ?_)
  have e:((1+1:Nat):Int)=((gd p 0).rows.length:Int):=by omega
  rw [e]
  refine iter_ex (c:=3) ?_
  rw [i_ConcatR2]
  simp only [int_i,c_nlt]
 refine congrArg (fun x=>some (bo,x)) ?_
 simp only [e0,nd,cond_true,cond_false,Option.isSome_some,Out.code,Out.pay,Option.getD_some,gd_cons_zero,gd_cons_succ,Nat.reduceBEq,Nat.reduceAdd,int_i,bool_b,str_s,rows_l,Bool.not_true,Bool.not_false,beq_self_eq_true]
 rw [leI_t (by omega),leI_t (by omega)]
 simp only [e2,nd,cond_true,cond_false,Option.isSome_some,Out.code,Out.pay,Option.getD_some,gd_cons_zero,gd_cons_succ,Nat.reduceBEq,Nat.reduceAdd,int_i,bool_b,str_s,rows_l,Bool.not_true,Bool.not_false,beq_self_eq_true,Bool.and_self]
 rw [List.nil_append]
 rfl
end Go.Proofs.YtecefnhhlaolmaaGreat
