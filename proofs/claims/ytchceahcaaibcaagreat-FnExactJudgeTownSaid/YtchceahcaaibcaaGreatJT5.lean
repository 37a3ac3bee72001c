/-
 Texts of the proof,put together: part 5.
-/
import Derived.Test.YtchceahcaaibcaaGreatJT1
import Derived.Test.YtchceahcaaibcaaGreatJT2
import Derived.Test.YtchceahcaaibcaaGreatJT3
import Derived.Test.YtchceahcaaibcaaGreatJT4
import Derived.Test.YtchceahcaaibcaaGreatProg
import Derived.WalkKit
import Derived.ProofKit
import Derived.Shelf.RegionOpenPlain
import Derived.Deep.RegionLaw
import Derived.Deep.LoopGhost
import Derived.Lib.SliceRun
import Derived.Lib.AppendZerosOnto
import Derived.Lib.Hide
import Derived.Laws.IdiomCopy
import Derived.OwnWalk
import Derived.Shelf.Spec.SlicesInsert
set_option linter.unusedSimpArgs false
set_option linter.unusedVariables false
set_option linter.unusedSectionVars false
namespace Go.Proofs.YtchceahcaaibcaaGreat
set_option maxRecDepth 4096
set_option maxHeartbeats 1000000
abbrev i_LocksHoldT:FuncId→List T→Option (T × Bool):=find [i_LocksOkE,i_RangeOkE,i_isModeE,cofLHE]
theorem i_LocksHoldT_ok:CallOk Tryz.prog i_LocksHoldT:=find_ok (fC ⟨i_LocksOk_ok,fC ⟨i_RangeOk_ok,fC ⟨i_isMode_ok,fC ⟨cofLH_ok,fN⟩⟩⟩⟩)
abbrev i_LocksHoldK:List Nat:= [0,1,2,3,5,6,7,8]
theorem i_LocksHold_ev (N:Nat) (p q r s:List D):evFn Tryz.prog i_LocksHoldT N i_LocksHoldK Tryz.f263 rb [⟨sd (.sl 138),p⟩,⟨ri,q⟩,⟨ag rIRange,r⟩,⟨ri,s⟩]=some (bo,
 bif locksOk (gd p 0) then bif rangeOk (sub r 0 2) then bif i_isModeF [(gd s 0)] then ob (anyS (fun rr=>ixfLHC (.l [[.l [[gd q 0]],.l [[gd s 0]],.l [sub r 0 2]]]) (sub rr 0 4)) (gd p 0))
 else ob false
 else ob false
 else ob false):=by kernel_rfl
def locksHold (z tx:D) (a:List D) (mode:D):Bool:=locksOk z&&(rangeOk a&&(i_isModeF [mode]&&anyS (fun r=>ixfLHC (.l [[.l [[tx]],.l [[mode]],.l [sub a 0 2]]]) (sub r 0 4)) z))
def i_LocksHoldE:Ent:=(263,e4 (sd (.sl 138)) ri (ag rIRange) ri fun p q r s=>(⟨rb,[.b (locksHold (gd p 0) (gd q 0) r (gd s 0))]⟩,true))
theorem i_LocksHold_ok:EntOk Tryz.prog i_LocksHoldE:=e4_ok fun p q r s h=>evFn_sound (N:=0) (ks:=i_LocksHoldK) (key:=bo) i_LocksHoldT_ok (enters Tryz.func263) Tryz.func263 fun hw=>by
 rw [i_LocksHold_ev]
 rw [show rangeOk (sub r 0 2)=rangeOk r from rfl]
 unfold locksHold
 cases locksOk (gd p 0) <;> try rfl
 cases rangeOk r <;> try rfl
 cases i_isModeF [gd s 0] <;> rfl
abbrev s_l12HoldsT:FuncId→List T→Option (T × Bool):=find [s_l12RangeE,s_RangeInE]
theorem s_l12HoldsT_ok:CallOk Tryz.prog s_l12HoldsT:=find_ok (fC ⟨s_l12Range_ok,fC ⟨s_RangeIn_ok,fN⟩⟩)
abbrev s_l12HoldsK:List Nat:= [0,1,2,3,6,8,9,13,40]
noncomputable def s_l12HoldsL0 (N:Nat) (p q r s:List D):List D→Out:=loopOf Tryz.prog s_l12HoldsT N s_l12HoldsK Tryz.f242 rb [⟨sd (.sl 138),p⟩,⟨ri,q⟩,⟨ag rIRange,r⟩,⟨ri,s⟩] 0
theorem s_l12HoldsR0 (N:Nat) (p q r s:List D) (x0 x1 x2 x3 x4 x5 x6 x7 x8 x9:D):(s_l12HoldsL0 N p q r s) [x0,x1,x2,x3,x4,x5,x6,x7,x8,x9] =
 bif ltI x7.int (x0.rows.length:Int) then nd (inRange x7.int x0.rows.length) (bif (gd (x0.rows.getD x7.int.toNat []) 0).int==x1.int then nd (inRange x7.int x0.rows.length) (bif s_RangeInF [x8,x9] [(gd (x0.rows.getD x7.int.toNat []) 1),(gd (x0.rows.getD x7.int.toNat []) 2)] then nd (inRange x7.int x0.rows.length) (bif leI x4.int (gd (x0.rows.getD x7.int.toNat []) 3).int then ob true
 else nx [x0,x1,x2,x3,x4,x5,x6,.i (w64 (x7.int+1)),x8,x9])
 else nx [x0,x1,x2,x3,x4,x5,x6,.i (w64 (x7.int+1)),x8,x9])
 else nx [x0,x1,x2,x3,x4,x5,x6,.i (w64 (x7.int+1)),x8,x9])
 else ex 0 [x0,x1,x2,x3,x4,x5,x6,x7,x8,x9]:=by kernel_rfl
theorem s_l12Holds_ev (N:Nat) (p q r s:List D):evFn Tryz.prog s_l12HoldsT N s_l12HoldsK Tryz.f242 rb [⟨sd (.sl 138),p⟩,⟨ri,q⟩,⟨ag rIRange,r⟩,⟨ri,s⟩]=some (bo,
 (let o0:=iter (s_l12HoldsL0 N p q r s) N [gd p 0,gd q 0,gd r 0,gd r 1,gd s 0,.i 0,.i 0,.i 0,gd r 0,gd r 1]
  nd o0.isSome (bif o0.code==1 then some (1,o0.pay)
  else nd (o0.code==2) (ob false)))):=by kernel_rfl
def holdS (r:List D) (tx:D) (a:List D) (mode:D):Bool:=((gd r 0).int==tx.int)&&(s_RangeInF a [gd r 1,gd r 2]&&leI mode.int (gd r 3).int)
def holds (z tx:D) (a:List D) (mode:D):Bool:=(List.range z.rows.length).any fun k=>holdS (z.rows.getD k []) tx a mode
theorem lock_row {z:D} (h:locksOk z=true) {k:Nat} (hk:k<z.rows.length):rangeOk [gd (z.rows.getD k []) 1,gd (z.rows.getD k []) 2]=true∧i_isModeF [gd (z.rows.getD k []) 3]=true:=by
 simp only [locksOk,Bool.and_eq_true,List.all_eq_true,List.mem_range] at h
 have:=h.1 k hk
 simp only [lockAt,Bool.and_eq_true] at this
 exact ⟨this.2.1,this.2.2.1⟩
theorem any_congr {n:Nat} {C C':Nat→Bool} (h:∀ k,k<n→C k=C' k):(List.range n).any C=(List.range n).any C':=by
 rw [Bool.eq_iff_iff]
 simp only [List.any_eq_true,List.mem_range]
 exact ⟨fun ⟨k,hk,hc⟩=>⟨k,hk,by rw [← h k hk]; exact hc⟩,fun ⟨k,hk,hc⟩=>⟨k,hk,by rw [h k hk]; exact hc⟩⟩
theorem all_congr {n:Nat} {C C':Nat→Bool} (h:∀ k,k<n→C k=C' k):(List.range n).all C=(List.range n).all C':=by
 rw [Bool.eq_iff_iff]
 simp only [List.all_eq_true,List.mem_range]
 exact ⟨fun hc k hk=>by rw [← h k hk]; exact hc k hk,fun hc k hk=>by rw [h k hk]; exact hc k hk⟩
theorem hold_same {z tx:D} {a:List D} (hz:locksOk z=true) (ha:rangeOk a=true):holds z tx a (.i 2)=locksHold z tx a (.i 2):=by
 unfold holds locksHold
 rw [hz,ha,Bool.true_and,Bool.true_and,show i_isModeF [.i 2]=true from rfl,Bool.true_and]
 unfold anyS
 refine any_congr fun k hk=>?_
 obtain ⟨h1,h2⟩:=lock_row hz hk
 show holdS (z.rows.getD k []) tx a (.i 2)=i_LocksHold_1F (sub (z.rows.getD k []) 0 4) [.l [[tx]]] [.l [[.i 2]]] [.l [sub a 0 2]]
 have e:i_LocksHold_1F (sub (z.rows.getD k []) 0 4) [.l [[tx]]] [.l [[.i 2]]] [.l [sub a 0 2]]=(bif (gd (z.rows.getD k []) 0).int==tx.int then bif (gd (z.rows.getD k []) 3).int==2 then bif leI (gd (z.rows.getD k []) 1).int (gd a 0).int then leI (gd a 1).int (gd (z.rows.getD k []) 2).int else false else bif (gd (z.rows.getD k []) 3).int==2 then bif leI (gd (z.rows.getD k []) 1).int (gd a 0).int then leI (gd a 1).int (gd (z.rows.getD k []) 2).int else false else false else false):=rfl
 rw [e]
 unfold holdS s_RangeInF
 rw [show rangeOk (sub a 0 2)=rangeOk a from rfl,ha,show rangeOk (sub [gd (z.rows.getD k []) 1,gd (z.rows.getD k []) 2] 0 2)=rangeOk [gd (z.rows.getD k []) 1,gd (z.rows.getD k []) 2] from rfl,h1]
 simp only [cond_true,gd_cons_zero,gd_cons_succ,int_i]
 have hm:leI 2 (gd (z.rows.getD k []) 3).int=((gd (z.rows.getD k []) 3).int==2):=by
  have h2:(bif (gd (z.rows.getD k []) 3).int==1 then true else (gd (z.rows.getD k []) 3).int==2)=true:=h2
  cases h3:(gd (z.rows.getD k []) 3).int==1
  ·rw [h3,cond_false] at h2
   rw [h2,eq_of_beq h2]; rfl
  ·rw [eq_of_beq h3]; rfl
 rw [hm]
 cases (gd (z.rows.getD k []) 0).int==tx.int <;> cases (gd (z.rows.getD k []) 3).int==2 <;> cases leI (gd (z.rows.getD k []) 1).int (gd a 0).int <;> cases leI (gd a 1).int (gd (z.rows.getD k []) 2).int <;> rfl
def s_l12HoldsE:Ent:=(242,e4 (sd (.sl 138)) ri (ag rIRange) ri fun p q r s=>(⟨rb,[.b (holds (gd p 0) (gd q 0) r (gd s 0))]⟩,true))
theorem s_l12Holds_ok:EntOk Tryz.prog s_l12HoldsE:=e4_ok fun p q r s h=>evFn_sound (N:=(gd p 0).rows.length+1) (ks:=s_l12HoldsK) (key:=bo) s_l12HoldsT_ok (enters Tryz.func242) Tryz.func242 fun hw=>by
 rw [s_l12Holds_ev]
 have hl:=wt_sl (hw ⟨sd (.sl 138),p⟩ (by simp))
 have e:=any_loop (L:=s_l12HoldsL0 ((gd p 0).rows.length+1) p q r s) (fun k => [gd p 0,gd q 0,gd r 0,gd r 1,gd s 0,.i 0,.i 0,.i (k:Int),gd r 0,gd r 1]) (gd p 0).rows.length (fun k=>holdS ((gd p 0).rows.getD k []) (gd q 0) r (gd s 0)) [.b true] 0 (fun k hk=>?_) ?_ (N:=(gd p 0).rows.length+1) (by omega)
 ·simp only [Int.natCast_zero] at e
  rw [e]
  unfold holds
  cases (List.range (gd p 0).rows.length).any (fun k=>holdS ((gd p 0).rows.getD k []) (gd q 0) r (gd s 0)) <;> rfl
 ·show s_l12HoldsL0 _ p q r s [_,_,_,_,_,_,_,.i (k:Int),_,_]=_
  rw [s_l12HoldsR0]
  simp only [int_i,c_lt hk,nd_ix hk,w64_succ hk hl,Int.toNat_natCast]
  rw [show s_RangeInF [gd r 0,gd r 1] [gd ((gd p 0).rows.getD k []) 1,gd ((gd p 0).rows.getD k []) 2]=s_RangeInF r [gd ((gd p 0).rows.getD k []) 1,gd ((gd p 0).rows.getD k []) 2] from rfl]
  unfold holdS
  cases (gd ((gd p 0).rows.getD k []) 0).int==(gd q 0).int <;> cases s_RangeInF r [gd ((gd p 0).rows.getD k []) 1,gd ((gd p 0).rows.getD k []) 2] <;> cases leI (gd s 0).int (gd ((gd p 0).rows.getD k []) 3).int <;> rfl
 ·show s_l12HoldsL0 _ p q r s [_,_,_,_,_,_,_,.i ((gd p 0).rows.length:Int),_,_]=_
  rw [s_l12HoldsR0]
  simp only [int_i,c_nlt]
abbrev i_txsOfT:FuncId→List T→Option (T × Bool):=find []
theorem i_txsOfT_ok:CallOk Tryz.prog i_txsOfT:=find_ok (fN)
abbrev i_txsOfK:List Nat:= [0,2,3,5,7,8,9,10]
noncomputable def i_txsOfL0 (N:Nat) (p:List D):List D→Out:=loopOf Tryz.prog i_txsOfT N i_txsOfK Tryz.f173 (.one (.c (.own (0,0) true 3))) [⟨sd (.sl 248),p⟩] 0
theorem i_txsOfR0 (N:Nat) (p:List D) (x0 x1 x2 x3 x4 x5:D):(i_txsOfL0 N p) [x0,x1,x2,x3,x4,x5] =
 bif ltI x5.int x4.int then nd (inRange x5.int x3.rows.length) (nd (lenOk (x2.rows ++ [[gd (x3.rows.getD x5.int.toNat []) 0]])&&true) (nx [x0,x1,.l (x2.rows ++ [[gd (x3.rows.getD x5.int.toNat []) 0]]),x3,x4,.i (w64 (x5.int+1))]))
 else ex 0 [x0,x1,x2,x3,x4,x5]:=by kernel_rfl
theorem i_txsOf_ev (N:Nat) (p:List D):evFn Tryz.prog i_txsOfT N i_txsOfK Tryz.f173 (.one (.c (.own (0,0) true 3))) [⟨sd (.sl 248),p⟩]=some (bo,
 (let o0:=iter (i_txsOfL0 N p) N [gd p 0,.l [],.l [],gd p 0,.i ((gd p 0).rows.length:Int),.i 0]
  nd o0.isSome (nd (o0.code==2) (some (1,[gd o0.pay 2]))))):=by kernel_rfl
def txsD (z:D):D:=.l (z.rows.map fun r => [gd r 0])
def i_txsOfE:Ent:=(173,e1 (sd (.sl 248)) fun p=>(⟨.one (.c (.own (0,0) true 3)),[txsD (gd p 0)]⟩,leI ((gd p 0).rows.length:Int) 1000000000))
theorem i_txsOf_ok:EntOk Tryz.prog i_txsOfE:=e1_ok fun p h=>evFn_sound (N:=(gd p 0).rows.length+1) (ks:=i_txsOfK) (key:=bo) i_txsOfT_ok (enters Tryz.func173) Tryz.func173 fun hw=>by
 rw [i_txsOf_ev]
 have h:leI ((gd p 0).rows.length:Int) 1000000000=true:=h
 simp only [leI,decide_eq_true_eq] at h
 have e:=run_loop (L:=i_txsOfL0 ((gd p 0).rows.length+1) p) (fun k => [gd p 0,.l [],.l (((gd p 0).rows.take k).map fun r => [gd r 0]),gd p 0,.i ((gd p 0).rows.length:Int),.i (k:Int)]) (gd p 0).rows.length 0 (fun k hk=>?_) ?_ (N:=(gd p 0).rows.length+1) (by omega)
 ·simp only [Int.natCast_zero,List.take_zero,List.map_nil,List.take_length] at e
  rw [e]
  rfl
 ·show i_txsOfL0 _ p [_,_,.l (((gd p 0).rows.take k).map fun r => [gd r 0]),_,_,.i (k:Int)]=_
  rw [i_txsOfR0]
  have ht:((gd p 0).rows.take (k+1)).map (fun r => [gd r 0])=((gd p 0).rows.take k).map (fun r => [gd r 0]) ++ [[gd ((gd p 0).rows.getD k []) 0]]:=by
   rw [List.take_succ_eq_append_getElem hk,List.map_append,List.getD_eq_getElem?_getD,List.getElem?_eq_getElem hk]
   rfl
  have hd:lenOk (((gd p 0).rows.take k).map (fun r => [gd r 0]) ++ [[gd ((gd p 0).rows.getD k []) 0]])=true:=lenOk_t (by simp; omega)
  simp only [int_i,rows_l,c_lt hk,nd_ix hk,w64_succ hk (show (gd p 0).rows.length≤9223372036854775807 from by omega),Int.toNat_natCast]
  rw [hd,ht]
  rfl
 ·show i_txsOfL0 _ p [_,_,_,_,.i ((gd p 0).rows.length:Int),.i ((gd p 0).rows.length:Int)]=_
  rw [i_txsOfR0]
  simp only [int_i,c_nlt]
abbrev i_heldsOk_1T:FuncId→List T→Option (T × Bool):=find [i_oneE,i_LocksHoldE]
theorem i_heldsOk_1T_ok:CallOk Tryz.prog i_heldsOk_1T:=find_ok (fC ⟨i_one_ok,fC ⟨i_LocksHold_ok,fN⟩⟩)
abbrev i_heldsOk_1K:List Nat:= [0,1,2,3,4]
theorem i_heldsOk_1_ev (N:Nat) (p q r:List D):evFn Tryz.prog i_heldsOk_1T N i_heldsOk_1K Tryz.f262 rb [⟨ag rIWrite,p⟩,⟨.one (.c (.cptr [si,.sl 122,.sl 122,.sl 176,.sl 138,.sl 248,.sl 3,.sl 3,si] 0)),q⟩,⟨.one (.c (.cptr [si,.sl 132] 0)),r⟩]=some (bo,
 ob (!(locksHold (gd ((gd q 0).rows.getD 0 []) 4) (gd ((gd r 0).rows.getD 0 []) 0) [(gd p 0),.i (w64 ((gd p 0).int+1))] (.i 2)))):=by kernel_rfl
def i_heldsOk_1F (p q r:List D):Bool:=
 !(locksHold (gd ((gd q 0).rows.getD 0 []) 4) (gd ((gd r 0).rows.getD 0 []) 0) [(gd p 0),.i (w64 ((gd p 0).int+1))] (.i 2))
def i_heldsOk_1E:Ent:=(262,e3 (ag rIWrite) (.one (.c (.cptr [si,.sl 122,.sl 122,.sl 176,.sl 138,.sl 248,.sl 3,.sl 3,si] 0))) (.one (.c (.cptr [si,.sl 132] 0))) fun p q r=>(⟨rb,[.b (i_heldsOk_1F p [gd q 0] [gd r 0])]⟩,true))
theorem i_heldsOk_1_ok:EntOk Tryz.prog i_heldsOk_1E:=e3_ok fun p q r h=>evFn_sound (N:=0) (ks:=i_heldsOk_1K) (key:=bo) i_heldsOk_1T_ok (enters Tryz.func262) Tryz.func262 fun hw=>by
 rw [i_heldsOk_1_ev]
 try simp only [cond_ob,cond_oi,cond_os]
 rfl
abbrev ixfHOT:FuncId→List T→Option (T × Bool):=find [i_heldsOk_1E]
theorem ixfHOT_ok:CallOk Tryz.prog ixfHOT:=find_ok (fC ⟨i_heldsOk_1_ok,fN⟩)
abbrev ixfHOK:List Nat:= [0,1,4,5,7,8,9,16]
noncomputable def ixfHOL0 (N:Nat) (p q:List D):List D→Out:=loopOf Tryz.prog ixfHOT N ixfHOK Tryz.f308 ri [⟨sd (.sl 132),p⟩,⟨.one (.c (.fn 262 [.cptr [si,.sl 122,.sl 122,.sl 176,.sl 138,.sl 248,.sl 3,.sl 3,si] 0,.cptr [si,.sl 132] 0])),q⟩] 0
theorem ixfHOR0 (N:Nat) (p q:List D) (x0 x1 x2 x3 x4:D):(ixfHOL0 N p q) [x0,x1,x2,x3,x4] =
 bif ltI x4.int x3.int then nd (inRange x4.int x0.rows.length) (bif i_heldsOk_1F (sub (x0.rows.getD x4.int.toNat []) 0 2) [gd (x1.rows.getD 0 []) 0] [gd (x1.rows.getD 0 []).tail 0] then some (1,[x4])
 else nx [x0,x1,x2,x3,.i (w64 (x4.int+1))])
 else ex 0 [x0,x1,x2,x3,x4]:=by kernel_rfl
theorem ixfHO_ev (N:Nat) (p q:List D):evFn Tryz.prog ixfHOT N ixfHOK Tryz.f308 ri [⟨sd (.sl 132),p⟩,⟨.one (.c (.fn 262 [.cptr [si,.sl 122,.sl 122,.sl 176,.sl 138,.sl 248,.sl 3,.sl 3,si] 0,.cptr [si,.sl 132] 0])),q⟩]=some (bo,
 (let o0:=iter (ixfHOL0 N p q) N [gd p 0,gd q 0,.i 0,.i ((gd p 0).rows.length:Int),.i 0]
  nd o0.isSome (bif o0.code==1 then some (1,o0.pay)
  else nd (o0.code==2) (oi (-1))))):=by kernel_rfl
def ixfHOC (c:D) (r:List D):Bool:=i_heldsOk_1F r [gd (c.rows.getD 0 []) 0] [gd (c.rows.getD 0 []).tail 0]
def ixfHOE:Ent:=(308,e2 (sd (.sl 132)) (.one (.c (.fn 262 [.cptr [si,.sl 122,.sl 122,.sl 176,.sl 138,.sl 248,.sl 3,.sl 3,si] 0,.cptr [si,.sl 132] 0]))) fun p q=>(⟨ri,[.i (ixF (fun k=>ixfHOC (gd q 0) (sub ((gd p 0).rows.getD k []) 0 2)) 0 (gd p 0).rows.length)]⟩,true))
theorem ixfHO_ok:EntOk Tryz.prog ixfHOE:=e2_ok fun p q h=>evFn_sound (N:=(gd p 0).rows.length+1) (ks:=ixfHOK) (key:=bo) ixfHOT_ok (enters Tryz.func308) Tryz.func308 fun hw=>by
 rw [ixfHO_ev]
 have hl:=wt_sl (hw ⟨sd (.sl 132),p⟩ (by simp))
 have e:=ix_loop (L:=ixfHOL0 ((gd p 0).rows.length+1) p q) (fun k => [gd p 0,gd q 0,.i 0,.i ((gd p 0).rows.length:Int),.i (k:Int)]) (gd p 0).rows.length (fun k=>ixfHOC (gd q 0) (sub ((gd p 0).rows.getD k []) 0 2)) [gd p 0,gd q 0,.i 0,.i ((gd p 0).rows.length:Int),.i ((gd p 0).rows.length:Int)] (fun k hk=>?_) ?_ (gd p 0).rows.length 0 ((gd p 0).rows.length+1) (by omega) (by omega)
 ·simp only [Int.natCast_zero] at e
  rw [e]
  have hno:=ixF_neg (fun k=>ixfHOC (gd q 0) (sub ((gd p 0).rows.getD k []) 0 2)) (gd p 0).rows.length 0
  cases hd:decide (ixF (fun k=>ixfHOC (gd q 0) (sub ((gd p 0).rows.getD k []) 0 2)) 0 (gd p 0).rows.length≥0)
  ·rw [hno hd]; rfl
  ·rfl
 ·show ixfHOL0 _ p q [_,_,_,_,.i (k:Int)]=_
  rw [ixfHOR0]
  simp only [int_i,c_lt hk,nd_ix hk,w64_succ hk hl,Int.toNat_natCast]
  unfold ixfHOC
  cases i_heldsOk_1F (sub ((gd p 0).rows.getD k []) 0 2) [gd ((gd q 0).rows.getD 0 []) 0] [gd ((gd q 0).rows.getD 0 []).tail 0] <;> rfl
 ·show ixfHOL0 _ p q [_,_,_,.i ((gd p 0).rows.length:Int),.i ((gd p 0).rows.length:Int)]=_
  rw [ixfHOR0]
  simp only [int_i,c_nlt]
abbrev cofHOT:FuncId→List T→Option (T × Bool):=find [ixfHOE,i_heldsOk_1E]
theorem cofHOT_ok:CallOk Tryz.prog cofHOT:=find_ok (fC ⟨ixfHO_ok,fC ⟨i_heldsOk_1_ok,fN⟩⟩)
abbrev cofHOK:List Nat:= [0,1,4]
theorem cofHO_ev (N:Nat) (p q:List D):evFn Tryz.prog cofHOT N cofHOK Tryz.f261 rb [⟨sd (.sl 132),p⟩,⟨.one (.c (.fn 262 [.cptr [si,.sl 122,.sl 122,.sl 176,.sl 138,.sl 248,.sl 3,.sl 3,si] 0,.cptr [si,.sl 132] 0])),q⟩]=some (bo,
 ob (leI 0 (ixF (fun k=>ixfHOC (.l [[gd ((gd q 0).rows.getD 0 []) 0,gd ((gd q 0).rows.getD 0 []).tail 0]]) (sub ((gd p 0).rows.getD k []) 0 2)) 0 (gd p 0).rows.length))):=by kernel_rfl
def cofHOE:Ent:=(261,e2 (sd (.sl 132)) (.one (.c (.fn 262 [.cptr [si,.sl 122,.sl 122,.sl 176,.sl 138,.sl 248,.sl 3,.sl 3,si] 0,.cptr [si,.sl 132] 0]))) fun p q=>(⟨rb,[.b (anyS (fun rr=>ixfHOC (gd q 0) (sub rr 0 2)) (gd p 0))]⟩,true))
theorem cofHO_ok:EntOk Tryz.prog cofHOE:=e2_ok fun p q h=>evFn_sound (N:=0) (ks:=cofHOK) (key:=bo) cofHOT_ok (enters Tryz.func261) Tryz.func261 fun hw=>by
 rw [cofHO_ev]
 refine congrArg (fun x=>some (bo,ob x)) ?_
 exact (ixF_any (fun k=>ixfHOC (gd q 0) (sub ((gd p 0).rows.getD k []) 0 2)) (gd p 0).rows.length 0).trans (by simp only [Nat.zero_add]; rfl)
abbrev i_heldsOkT:FuncId→List T→Option (T × Bool):=find [i_WritesOkE,cofHOE,i_txsOfE,i_ascendingE]
theorem i_heldsOkT_ok:CallOk Tryz.prog i_heldsOkT:=find_ok (fC ⟨i_WritesOk_ok,fC ⟨cofHO_ok,fC ⟨i_txsOf_ok,fC ⟨i_ascending_ok,fN⟩⟩⟩⟩)
abbrev i_heldsOkK:List Nat:= [0,1,2,4,6,7,8,9,21]
noncomputable def i_heldsOkL0 (N:Nat) (p:List D):List D→Out:=loopOf Tryz.prog i_heldsOkT N i_heldsOkK Tryz.f164 rb [⟨ag rIShard,p⟩] 0
theorem i_heldsOkR0 (N:Nat) (p:List D) (x0 x1 x2 x3 x4 x5 x6 x7 x8 x9 x10 x11 x12 x13 x14 x15 x16 x17 x18 x19 x20 x21 x22:D):(i_heldsOkL0 N p) [x0,x1,x2,x3,x4,x5,x6,x7,x8,x9,x10,x11,x12,x13,x14,x15,x16,x17,x18,x19,x20,x21,x22] =
 bif ltI x13.int x12.int then nd (inRange x13.int x11.rows.length) (bif !(writesOk (gd (x11.rows.getD x13.int.toNat []) 1)) then ob false
 else bif anyS (fun rr=>ixfHOC (.l [[.l [[x14,x15,x16,x17,x18,x19,x20,x21,x22]],.l [sub (x11.rows.getD x13.int.toNat []) 0 2]]]) (sub rr 0 2)) (gd (x11.rows.getD x13.int.toNat []) 1) then ob false
 else nx [x0,x1,x2,x3,x4,x5,x6,x7,x8,x9,x10,x11,x12,.i (w64 (x13.int+1)),x14,x15,x16,x17,x18,x19,x20,x21,x22])
 else ex 0 [x0,x1,x2,x3,x4,x5,x6,x7,x8,x9,x10,x11,x12,x13,x14,x15,x16,x17,x18,x19,x20,x21,x22]:=by kernel_rfl
theorem i_heldsOk_ev (N:Nat) (p:List D):evFn Tryz.prog i_heldsOkT N i_heldsOkK Tryz.f164 rb [⟨ag rIShard,p⟩]=some (bo,
 (let o0:=iter (i_heldsOkL0 N p) N [gd p 0,gd p 1,gd p 2,gd p 3,gd p 4,gd p 5,gd p 6,gd p 7,gd p 8,.i 0,.i 0,gd p 5,.i ((gd p 5).rows.length:Int),.i 0,gd p 0,gd p 1,gd p 2,gd p 3,gd p 4,gd p 5,gd p 6,gd p 7,gd p 8]
  nd o0.isSome (bif o0.code==1 then some (1,o0.pay)
  else nd (o0.code==2) (nd (leI ((gd o0.pay 19).rows.length:Int) 1000000000) (ob (ascOk (txsD (gd o0.pay 19)))))))):=by kernel_rfl
def oneAt (w:List D):List D:= [gd w 0,.i (w64 ((gd w 0).int+1))]
def heldAt (p:List D) (k:Nat):Bool:=writesOk (gd ((gd p 5).rows.getD k []) 1)&&(List.range (gd ((gd p 5).rows.getD k []) 1).rows.length).all fun j=>locksHold (gd p 4) (gd ((gd p 5).rows.getD k []) 0) (oneAt ((gd ((gd p 5).rows.getD k []) 1).rows.getD j [])) (.i 2)
def heldsOk (p:List D):Bool:=(List.range (gd p 5).rows.length).all (heldAt p)&&ascOk (txsD (gd p 5))
def i_heldsOkE:Ent:=(164,e1 (ag rIShard) fun p=>(⟨rb,[.b (heldsOk p)]⟩,leI ((gd p 5).rows.length:Int) 1000000000))
theorem i_heldsOk_ok:EntOk Tryz.prog i_heldsOkE:=e1_ok fun p h=>evFn_sound (N:=(gd p 5).rows.length+1) (ks:=i_heldsOkK) (key:=bo) i_heldsOkT_ok (enters Tryz.func164) Tryz.func164 fun hw=>by
 rw [i_heldsOk_ev]
 have h:leI ((gd p 5).rows.length:Int) 1000000000=true:=h
 have h':=h
 simp only [leI,decide_eq_true_eq] at h'
 have e:=for_loop (L:=i_heldsOkL0 ((gd p 5).rows.length+1) p) (fun k => [gd p 0,gd p 1,gd p 2,gd p 3,gd p 4,gd p 5,gd p 6,gd p 7,gd p 8,.i 0,.i 0,gd p 5,.i ((gd p 5).rows.length:Int),.i (k:Int),gd p 0,gd p 1,gd p 2,gd p 3,gd p 4,gd p 5,gd p 6,gd p 7,gd p 8]) (gd p 5).rows.length (heldAt p) [.b false] 0 (fun k hk=>?_) ?_ (N:=(gd p 5).rows.length+1) (by omega)
 ·simp only [Int.natCast_zero] at e
  rw [e]
  unfold heldsOk
  cases (List.range (gd p 5).rows.length).all (heldAt p)
  ·rfl
  ·simp only [nd,cond_true,cond_false,Option.isSome_some,Out.code,Out.pay,Option.getD_some,gd_cons_zero,gd_cons_succ,Nat.reduceBEq,Nat.reduceAdd,int_i,bool_b,str_s,rows_l,Bool.not_true,Bool.not_false,beq_self_eq_true,h]
   rfl
 ·show i_heldsOkL0 _ p [_,_,_,_,_,_,_,_,_,_,_,_,_,.i (k:Int),_,_,_,_,_,_,_,_,_]=_
  rw [i_heldsOkR0]
  simp only [int_i,c_lt hk,nd_ix hk,w64_succ hk (show (gd p 5).rows.length≤9223372036854775807 from by omega),Int.toNat_natCast]
  have ea:(!anyS (fun r=>ixfHOC (.l [[.l [[gd p 0,gd p 1,gd p 2,gd p 3,gd p 4,gd p 5,gd p 6,gd p 7,gd p 8]],.l [sub ((gd p 5).rows.getD k []) 0 2]]]) (sub r 0 2)) (gd ((gd p 5).rows.getD k []) 1))=(List.range (gd ((gd p 5).rows.getD k []) 1).rows.length).all fun j=>locksHold (gd p 4) (gd ((gd p 5).rows.getD k []) 0) (oneAt ((gd ((gd p 5).rows.getD k []) 1).rows.getD j [])) (.i 2):=by
   unfold anyS
   rw [← not_any]
   refine all_congr fun j _=>?_
   show (!(!locksHold (gd p 4) (gd ((gd p 5).rows.getD k []) 0) (oneAt ((gd ((gd p 5).rows.getD k []) 1).rows.getD j [])) (.i 2)))=_
   rw [Bool.not_not]
  unfold heldAt
  rw [← ea]
  cases writesOk (gd ((gd p 5).rows.getD k []) 1) <;> cases anyS (fun r=>ixfHOC (.l [[.l [[gd p 0,gd p 1,gd p 2,gd p 3,gd p 4,gd p 5,gd p 6,gd p 7,gd p 8]],.l [sub ((gd p 5).rows.getD k []) 0 2]]]) (sub r 0 2)) (gd ((gd p 5).rows.getD k []) 1) <;> rfl
 ·show i_heldsOkL0 _ p [_,_,_,_,_,_,_,_,_,_,_,_,.i ((gd p 5).rows.length:Int),.i ((gd p 5).rows.length:Int),_,_,_,_,_,_,_,_,_]=_
  rw [i_heldsOkR0]
  simp only [int_i,c_nlt]
abbrev s_l13HeldsOkT:FuncId→List T→Option (T × Bool):=find [s_l12TxE,s_WritesOkE,s_l10OneE,s_l12HoldsE,s_l12HasE]
theorem s_l13HeldsOkT_ok:CallOk Tryz.prog s_l13HeldsOkT:=find_ok (fC ⟨s_l12Tx_ok,fC ⟨s_WritesOk_ok,fC ⟨s_l10One_ok,fC ⟨s_l12Holds_ok,fC ⟨s_l12Has_ok,fN⟩⟩⟩⟩⟩)
abbrev s_l13HeldsOkK:List Nat:= [0,1,2,3,4,5,10,43,48,63,75]
noncomputable def s_l13HeldsOkL0 (N:Nat) (p:List D):List D→Out:=loopOf Tryz.prog s_l13HeldsOkT N s_l13HeldsOkK Tryz.f137 rb [⟨ag rIShard,p⟩] 0
noncomputable def s_l13HeldsOkL2 (N:Nat) (p:List D):List D→Out:=loopOf Tryz.prog s_l13HeldsOkT N s_l13HeldsOkK Tryz.f137 rb [⟨ag rIShard,p⟩] 2
theorem s_l13HeldsOkR0 (N:Nat) (p:List D) (x0 x1 x2 x3 x4 x5 x6 x7 x8 x9 x10 x11 x12 x13 x14 x15 x16 x17 x18 x19 x20:D):(s_l13HeldsOkL0 N p) [x0,x1,x2,x3,x4,x5,x6,x7,x8,x9,x10,x11,x12,x13,x14,x15,x16,x17,x18,x19,x20] =
 bif ltI x11.int (x17.rows.length:Int) then nd (inRange x11.int x17.rows.length) (bif !(inB (gd (x17.rows.getD x11.int.toNat []) 0).int 1 60) then ob false
 else bif ltI 0 x11.int then nd (inRange (w64 (x11.int - 1)) x17.rows.length) (bif leI (gd (x17.rows.getD x11.int.toNat []) 0).int (gd (x17.rows.getD (w64 (x11.int - 1)).toNat []) 0).int then ob false
 else bif !(writesOk (gd (x17.rows.getD x11.int.toNat []) 1)) then ob false
 else (let o2:=iter (s_l13HeldsOkL2 N p) N [x0,x1,x2,x3,x4,x5,x6,x7,x8,x9,x10,x11,.b (ltI x11.int (x17.rows.length:Int)),.i 0,.b (!(writesOk (gd (x17.rows.getD x11.int.toNat []) 1))),.i 0,x12,x13,x14,x15,x16,x17,x18,x19,x20,gd (x17.rows.getD x11.int.toNat []) 0,gd (x17.rows.getD x11.int.toNat []) 1]
  nd o2.isSome (bif o2.code==1 then some (1,o2.pay)
  else nd (o2.code==4) (bif hasInt (gd o2.pay 22) (gd o2.pay 25).int then ob false
  else bif hasInt (gd o2.pay 23) (gd o2.pay 25).int then ob false
  else nx [gd o2.pay 0,gd o2.pay 1,gd o2.pay 2,gd o2.pay 3,gd o2.pay 4,gd o2.pay 5,gd o2.pay 6,gd o2.pay 7,gd o2.pay 8,gd o2.pay 9,gd o2.pay 10,.i (w64 ((gd o2.pay 11).int+1)),gd o2.pay 16,gd o2.pay 17,gd o2.pay 18,gd o2.pay 19,gd o2.pay 20,gd o2.pay 21,gd o2.pay 22,gd o2.pay 23,gd o2.pay 24]))))
 else bif !(writesOk (gd (x17.rows.getD x11.int.toNat []) 1)) then ob false
 else (let o2:=iter (s_l13HeldsOkL2 N p) N [x0,x1,x2,x3,x4,x5,x6,x7,x8,x9,x10,x11,.b (ltI x11.int (x17.rows.length:Int)),.i 0,.b (!(writesOk (gd (x17.rows.getD x11.int.toNat []) 1))),.i 0,x12,x13,x14,x15,x16,x17,x18,x19,x20,gd (x17.rows.getD x11.int.toNat []) 0,gd (x17.rows.getD x11.int.toNat []) 1]
  nd o2.isSome (bif o2.code==1 then some (1,o2.pay)
  else nd (o2.code==4) (bif hasInt (gd o2.pay 22) (gd o2.pay 25).int then ob false
  else bif hasInt (gd o2.pay 23) (gd o2.pay 25).int then ob false
  else nx [gd o2.pay 0,gd o2.pay 1,gd o2.pay 2,gd o2.pay 3,gd o2.pay 4,gd o2.pay 5,gd o2.pay 6,gd o2.pay 7,gd o2.pay 8,gd o2.pay 9,gd o2.pay 10,.i (w64 ((gd o2.pay 11).int+1)),gd o2.pay 16,gd o2.pay 17,gd o2.pay 18,gd o2.pay 19,gd o2.pay 20,gd o2.pay 21,gd o2.pay 22,gd o2.pay 23,gd o2.pay 24]))))
 else ex 0 [x0,x1,x2,x3,x4,x5,x6,x7,x8,x9,x10,x11,x12,x13,x14,x15,x16,x17,x18,x19,x20]:=by kernel_rfl
theorem s_l13HeldsOkR2 (N:Nat) (p:List D) (x0 x1 x2 x3 x4 x5 x6 x7 x8 x9 x10 x11 x12 x13 x14 x15 x16 x17 x18 x19 x20 x21 x22 x23 x24 x25 x26:D):(s_l13HeldsOkL2 N p) [x0,x1,x2,x3,x4,x5,x6,x7,x8,x9,x10,x11,x12,x13,x14,x15,x16,x17,x18,x19,x20,x21,x22,x23,x24,x25,x26] =
 bif ltI x15.int (x26.rows.length:Int) then nd (inRange x15.int x26.rows.length) (bif !(holds x20 x25 [(gd (x26.rows.getD x15.int.toNat []) 0),.i (w64 ((gd (x26.rows.getD x15.int.toNat []) 0).int+1))] (.i 2)) then ob false
 else nx [x0,x1,x2,x3,x4,x5,x6,x7,x8,x9,x10,x11,x12,x13,x14,.i (w64 (x15.int+1)),x16,x17,x18,x19,x20,x21,x22,x23,x24,x25,x26])
 else ex 2 [x0,x1,x2,x3,x4,x5,x6,x7,x8,x9,x10,x11,x12,x13,x14,x15,x16,x17,x18,x19,x20,x21,x22,x23,x24,x25,x26]:=by kernel_rfl
theorem s_l13HeldsOk_ev (N:Nat) (p:List D):evFn Tryz.prog s_l13HeldsOkT N s_l13HeldsOkK Tryz.f137 rb [⟨ag rIShard,p⟩]=some (bo,
 (let o0:=iter (s_l13HeldsOkL0 N p) N [gd p 0,gd p 1,gd p 2,gd p 3,gd p 4,gd p 5,gd p 6,gd p 7,gd p 8,.i 0,.i 0,.i 0,gd p 0,gd p 1,gd p 2,gd p 3,gd p 4,gd p 5,gd p 6,gd p 7,gd p 8]
  nd o0.isSome (bif o0.code==1 then some (1,o0.pay)
  else nd (o0.code==2) (ob true)))):=by kernel_rfl
def heldRest (p:List D) (k:Nat):Bool:=writesOk (gd ((gd p 5).rows.getD k []) 1)&&((List.range (gd ((gd p 5).rows.getD k []) 1).rows.length).all (fun j=>holds (gd p 4) (gd ((gd p 5).rows.getD k []) 0) (oneAt ((gd ((gd p 5).rows.getD k []) 1).rows.getD j [])) (.i 2))&&(!hasInt (gd p 6) (gd ((gd p 5).rows.getD k []) 0).int && !hasInt (gd p 7) (gd ((gd p 5).rows.getD k []) 0).int))
def heldAtS (p:List D):Nat→Bool
 | 0=>inB (gd ((gd p 5).rows.getD 0 []) 0).int 1 60&&heldRest p 0
 | k+1=>inB (gd ((gd p 5).rows.getD (k+1) []) 0).int 1 60&&(!leI (gd ((gd p 5).rows.getD (k+1) []) 0).int (gd ((gd p 5).rows.getD k []) 0).int&&heldRest p (k+1))
def heldsOkS (p:List D):Bool:=(List.range (gd p 5).rows.length).all (heldAtS p)
theorem writes_len {z:D} (h:writesOk z=true):z.rows.length≤60:=by
 simp only [writesOk,Bool.and_eq_true,decide_eq_true_eq] at h
 omega
theorem heldsU (p:List D) (N:Nat) (hN:61≤N) (x12 x14:D) (k:Nat) (hwo:writesOk (gd ((gd p 5).rows.getD k []) 1)=true) :
  iter (s_l13HeldsOkL2 N p) N [gd p 0,gd p 1,gd p 2,gd p 3,gd p 4,gd p 5,gd p 6,gd p 7,gd p 8,.i 0,.i 0,.i (k:Int),x12,.i 0,x14,.i 0,gd p 0,gd p 1,gd p 2,gd p 3,gd p 4,gd p 5,gd p 6,gd p 7,gd p 8,gd ((gd p 5).rows.getD k []) 0,gd ((gd p 5).rows.getD k []) 1] =
  some (bif (List.range (gd ((gd p 5).rows.getD k []) 1).rows.length).all (fun j=>holds (gd p 4) (gd ((gd p 5).rows.getD k []) 0) (oneAt ((gd ((gd p 5).rows.getD k []) 1).rows.getD j [])) (.i 2)) then (4,[gd p 0,gd p 1,gd p 2,gd p 3,gd p 4,gd p 5,gd p 6,gd p 7,gd p 8,.i 0,.i 0,.i (k:Int),x12,.i 0,x14,.i ((gd ((gd p 5).rows.getD k []) 1).rows.length:Int),gd p 0,gd p 1,gd p 2,gd p 3,gd p 4,gd p 5,gd p 6,gd p 7,gd p 8,gd ((gd p 5).rows.getD k []) 0,gd ((gd p 5).rows.getD k []) 1]) else (1,[.b false])):=by
 have hlw:=writes_len hwo
 have e:=for_loop (L:=s_l13HeldsOkL2 N p) (fun j => [gd p 0,gd p 1,gd p 2,gd p 3,gd p 4,gd p 5,gd p 6,gd p 7,gd p 8,.i 0,.i 0,.i (k:Int),x12,.i 0,x14,.i (j:Int),gd p 0,gd p 1,gd p 2,gd p 3,gd p 4,gd p 5,gd p 6,gd p 7,gd p 8,gd ((gd p 5).rows.getD k []) 0,gd ((gd p 5).rows.getD k []) 1]) (gd ((gd p 5).rows.getD k []) 1).rows.length (fun j=>holds (gd p 4) (gd ((gd p 5).rows.getD k []) 0) (oneAt ((gd ((gd p 5).rows.getD k []) 1).rows.getD j [])) (.i 2)) [.b false] 2 (fun j hj=>?_) ?_ (N:=N) (by omega)
 ·simp only [Int.natCast_zero] at e
  exact e
 ·show s_l13HeldsOkL2 N p [_,_,_,_,_,_,_,_,_,_,_,_,_,_,_,.i (j:Int),_,_,_,_,_,_,_,_,_,_,_]=_
  rw [s_l13HeldsOkR2]
  simp only [int_i,c_lt hj,nd_ix hj,w64_succ hj (show (gd ((gd p 5).rows.getD k []) 1).rows.length≤9223372036854775807 from by omega),Int.toNat_natCast]
  rw [show holds (gd p 4) (gd ((gd p 5).rows.getD k []) 0) [gd ((gd ((gd p 5).rows.getD k []) 1).rows.getD j []) 0,.i (w64 ((gd ((gd ((gd p 5).rows.getD k []) 1).rows.getD j []) 0).int+1))] (.i 2)=holds (gd p 4) (gd ((gd p 5).rows.getD k []) 0) (oneAt ((gd ((gd p 5).rows.getD k []) 1).rows.getD j [])) (.i 2) from rfl]
  cases holds (gd p 4) (gd ((gd p 5).rows.getD k []) 0) (oneAt ((gd ((gd p 5).rows.getD k []) 1).rows.getD j [])) (.i 2) <;> rfl
 ·show s_l13HeldsOkL2 N p [_,_,_,_,_,_,_,_,_,_,_,_,_,_,_,.i ((gd ((gd p 5).rows.getD k []) 1).rows.length:Int),_,_,_,_,_,_,_,_,_,_,_]=_
  rw [s_l13HeldsOkR2]
  simp only [int_i,c_nlt]
def s_l13HeldsOkE:Ent:=(137,e1 (ag rIShard) fun p=>(⟨rb,[.b (heldsOkS p)]⟩,true))
theorem s_l13HeldsOk_ok:EntOk Tryz.prog s_l13HeldsOkE:=e1_ok fun p h=>evFn_sound (N:=(gd p 5).rows.length+61) (ks:=s_l13HeldsOkK) (key:=bo) s_l13HeldsOkT_ok (enters Tryz.func137) Tryz.func137 fun hw=>by
 rw [s_l13HeldsOk_ev]
 have hl:=wt_at (hw ⟨ag rIShard,p⟩ (by simp)) (j:=5) rfl
 have e:=for_loop (L:=s_l13HeldsOkL0 ((gd p 5).rows.length+61) p) (fun k => [gd p 0,gd p 1,gd p 2,gd p 3,gd p 4,gd p 5,gd p 6,gd p 7,gd p 8,.i 0,.i 0,.i (k:Int),gd p 0,gd p 1,gd p 2,gd p 3,gd p 4,gd p 5,gd p 6,gd p 7,gd p 8]) (gd p 5).rows.length (heldAtS p) [.b false] 0 (fun k hk=>?_) ?_ (N:=(gd p 5).rows.length+61) (by omega)
 ·simp only [Int.natCast_zero] at e
  rw [e]
  unfold heldsOkS
  cases (List.range (gd p 5).rows.length).all (heldAtS p) <;> rfl
 ·cases k with
  | zero =>
   show s_l13HeldsOkL0 _ p [_,_,_,_,_,_,_,_,_,_,_,.i ((0:Nat):Int),_,_,_,_,_,_,_,_,_]=_
   rw [s_l13HeldsOkR0]
   simp only [int_i,ltI_nat hk,cond_true,nd_ix hk,Int.toNat_natCast,ltI_00,cond_false,heldAtS,heldRest]
   cases inB (gd ((gd p 5).rows.getD 0 []) 0).int 1 60 <;> try rfl
   cases hwo:writesOk (gd ((gd p 5).rows.getD 0 []) 1) <;> try rfl
   simp only [Bool.not_true,cond_false,heldsU p _ (show 61≤(gd p 5).rows.length+61 from by omega) _ _ 0 hwo]
   cases (List.range (gd ((gd p 5).rows.getD 0 []) 1).rows.length).all (fun j=>holds (gd p 4) (gd ((gd p 5).rows.getD 0 []) 0) (oneAt ((gd ((gd p 5).rows.getD 0 []) 1).rows.getD j [])) (.i 2)) <;> try rfl
   simp only [nd,cond_true,cond_false,Option.isSome_some,Out.code,Out.pay,Option.getD_some,gd_cons_zero,gd_cons_succ,Nat.reduceBEq,Nat.reduceAdd,int_i,bool_b,str_s,rows_l,Bool.not_true,Bool.not_false,beq_self_eq_true,w64_succ hk hl]
   cases hasInt (gd p 6) (gd ((gd p 5).rows.getD 0 []) 0).int <;> cases hasInt (gd p 7) (gd ((gd p 5).rows.getD 0 []) 0).int <;> rfl
  | succ k =>
   show s_l13HeldsOkL0 _ p [_,_,_,_,_,_,_,_,_,_,_,.i ((k+1:Nat):Int),_,_,_,_,_,_,_,_,_]=_
   rw [s_l13HeldsOkR0]
   simp only [int_i,ltI_nat hk,cond_true,nd_ix hk,Int.toNat_natCast,ltI_0s,w64_pred (show k+1≤9223372036854775807 from by omega),nd_ix (Nat.lt_of_succ_lt hk),heldAtS,heldRest]
   cases inB (gd ((gd p 5).rows.getD (k+1) []) 0).int 1 60 <;> try rfl
   cases leI (gd ((gd p 5).rows.getD (k+1) []) 0).int (gd ((gd p 5).rows.getD k []) 0).int <;> try rfl
   cases hwo:writesOk (gd ((gd p 5).rows.getD (k+1) []) 1) <;> try rfl
   simp only [Bool.not_true,cond_false,heldsU p _ (show 61≤(gd p 5).rows.length+61 from by omega) _ _ (k+1) hwo]
   cases (List.range (gd ((gd p 5).rows.getD (k+1) []) 1).rows.length).all (fun j=>holds (gd p 4) (gd ((gd p 5).rows.getD (k+1) []) 0) (oneAt ((gd ((gd p 5).rows.getD (k+1) []) 1).rows.getD j [])) (.i 2)) <;> try rfl
   simp only [nd,cond_true,cond_false,Option.isSome_some,Out.code,Out.pay,Option.getD_some,gd_cons_zero,gd_cons_succ,Nat.reduceBEq,Nat.reduceAdd,int_i,bool_b,str_s,rows_l,Bool.not_true,Bool.not_false,beq_self_eq_true,w64_succ hk hl]
   cases hasInt (gd p 6) (gd ((gd p 5).rows.getD (k+1) []) 0).int <;> cases hasInt (gd p 7) (gd ((gd p 5).rows.getD (k+1) []) 0).int <;> rfl
 ·show s_l13HeldsOkL0 _ p [_,_,_,_,_,_,_,_,_,_,_,.i ((gd p 5).rows.length:Int),_,_,_,_,_,_,_,_,_]=_
  rw [s_l13HeldsOkR0]
  simp only [int_i,c_nlt]
end Go.Proofs.YtchceahcaaibcaaGreat
namespace Go.Proofs.YtchceahcaaibcaaGreat
set_option maxRecDepth 4096
set_option maxHeartbeats 1000000
abbrev i_cellFor_1T:FuncId→List T→Option (T × Bool):=find []
theorem i_cellFor_1T_ok:CallOk Tryz.prog i_cellFor_1T:=find_ok (fN)
abbrev i_cellFor_1K:List Nat:= [0,1,2,4]
theorem i_cellFor_1_ev (N:Nat) (p q:List D):evFn Tryz.prog i_cellFor_1T N i_cellFor_1K Tryz.f290 ri [⟨ag rICell,p⟩,⟨ri,q⟩]=some (bo,
 oi (w64 ((gd p 0).int - (gd q 0).int))):=by kernel_rfl
def i_cellFor_1E:Ent:=(290,e2 (ag rICell) ri fun p q=>(⟨ri,[.i (w64 ((gd p 0).int - (gd q 0).int))]⟩,true))
theorem i_cellFor_1_ok:EntOk Tryz.prog i_cellFor_1E:=e2_ok fun p q h=>evFn_sound (N:=0) (ks:=i_cellFor_1K) (key:=bo) i_cellFor_1T_ok (enters Tryz.func290) Tryz.func290 fun hw=>by
 rw [i_cellFor_1_ev]
 skip
abbrev bsCT:FuncId→List T→Option (T × Bool):=find [i_cellFor_1E]
theorem bsCT_ok:CallOk Tryz.prog bsCT:=find_ok (fC ⟨i_cellFor_1_ok,fN⟩)
abbrev bsCK:List Nat:= [0,1,2,6,7,8,9,10,11,17,31]
noncomputable def bsCL0 (N:Nat) (p q r:List D):List D→Out:=loopOf Tryz.prog bsCT N bsCK Tryz.f289 (.tup [.c (.d si),.c (.d (.bool))]) [⟨sd (.sl 176),p⟩,⟨ri,q⟩,⟨.one (.c (.fn 290 [])),r⟩] 0
theorem bsCR0 (N:Nat) (p q r:List D) (x0 x1 x2 x3 x4 x5 x6 x7:D):(bsCL0 N p q r) [x0,x1,x2,x3,x4,x5,x6,x7] =
 bif ltI x6.int x7.int then nd (leI 0 1) (nd (inRange (w64 ((IntKind.u64.wrap (w64 (x6.int+x7.int))).fdiv (2 ^ (min 1 64)))) x0.rows.length) (bif ltI (w64 ((gd (x0.rows.getD (w64 ((IntKind.u64.wrap (w64 (x6.int+x7.int))).fdiv (2 ^ (min 1 64)))).toNat []) 0).int - x1.int)) 0 then nx [x0,x1,x2,x3,x4,x5,.i (w64 ((w64 ((IntKind.u64.wrap (w64 (x6.int+x7.int))).fdiv (2 ^ (min 1 64))))+1)),x7]
 else nx [x0,x1,x2,x3,x4,x5,x6,.i (w64 ((IntKind.u64.wrap (w64 (x6.int+x7.int))).fdiv (2 ^ (min 1 64))))]))
 else ex 0 [x0,x1,x2,x3,x4,x5,x6,x7]:=by kernel_rfl
noncomputable def bsCs0 (N:Nat) (p q r:List D):Out:=let o0:=iter (bsCL0 N p q r) N [gd p 0,gd q 0,gd r 0,.i 0,.i 0,.i ((gd p 0).rows.length:Int),.i 0,.i ((gd p 0).rows.length:Int)]; nd o0.isSome (nd (o0.code==2) (bif ltI (gd o0.pay 6).int (gd o0.pay 5).int then nd (inRange (gd o0.pay 6).int (gd o0.pay 0).rows.length) (some (1,[gd o0.pay 6,.b ((w64 ((gd ((gd o0.pay 0).rows.getD (gd o0.pay 6).int.toNat []) 0).int - (gd o0.pay 1).int))==0)])) else some (1,[gd o0.pay 6,.b false])))
theorem bsC_ev (N:Nat) (p q r:List D):evFn Tryz.prog bsCT N bsCK Tryz.f289 (.tup [.c (.d si),.c (.d (.bool))]) [⟨sd (.sl 176),p⟩,⟨ri,q⟩,⟨.one (.c (.fn 290 [])),r⟩]=some (bo,(bsCs0 N p q r)):=by kernel_rfl
def keyAt (z:D) (k:Nat):Int:=(gd (z.rows.getD k []) 0).int
def lowN (z:D) (t:Int):Nat:=cnt (fun k=>ltI (keyAt z k) t) 0 z.rows.length
def bsB (z:D) (t:Int):Bool:=ltI (lowN z t:Int) (z.rows.length:Int)&&(keyAt z (lowN z t)==t)
theorem cnt_add (C:Nat→Bool):∀ b k a,cnt C k (a+b)=cnt C k a+cnt C (k+a) b
 | 0,k,a=>rfl
 | b+1,k,a=>by
  rw [← Nat.add_assoc,cnt_succ,cnt_succ,cnt_add C b k a,Nat.add_assoc,Nat.add_assoc]
theorem cnt_yes {C:Nat→Bool}:∀ m k,(∀ j,j<m→C (k+j)=true)→cnt C k m=m
 | 0,_,_=>rfl
 | m+1,k,h=>by rw [cnt_succ,cnt_yes m k (fun j hj=>h j (by omega)),h m (by omega)]; rfl
theorem cnt_no {C:Nat→Bool}:∀ m k,(∀ j,j<m→C (k+j)=false)→cnt C k m=0
 | 0,_,_=>rfl
 | m+1,k,h=>by rw [cnt_succ,cnt_no m k (fun j hj=>h j (by omega)),h m (by omega)]; rfl
theorem lowN_eq {z:D} {t:Int} {i:Nat} (hi:i≤z.rows.length) (h1:∀ k,k<i→keyAt z k<t) (h2:∀ k,i≤k→k<z.rows.length→t≤keyAt z k):lowN z t=i:=by
 unfold lowN
 obtain ⟨m,hm⟩:∃ m,z.rows.length=i+m:=⟨z.rows.length - i,by omega⟩
 rw [hm,cnt_add,cnt_yes i 0 (fun j hj=>by rw [Nat.zero_add]; exact ltI_t (h1 j hj)),cnt_no m (0+i) (fun j hj=>by rw [Nat.zero_add]; exact ltI_f (h2 (i+j) (by omega) (by omega)))]
 omega
structure Sorted (z:D):Prop where
 len:z.rows.length≤60
 key:∀ k,k<z.rows.length→0≤keyAt z k∧keyAt z k≤999
 lt:∀ i j,i<j→j<z.rows.length→keyAt z i<keyAt z j
theorem store_sorted {z:D} (h:storeOk z=true):Sorted z:=by
 simp only [storeOk,Bool.and_eq_true,List.all_eq_true,List.mem_range,leI,decide_eq_true_eq] at h
 obtain ⟨h,hl⟩:=h
 refine ⟨by omega,fun k hk=>?_,fun i j hij hj=>?_⟩
 ·have:=h k hk
  cases k with
  | zero=>simp only [storeAt,Bool.and_eq_true,inB,decide_eq_true_eq] at this; exact ⟨this.1.1,this.1.2⟩
  | succ k=>simp only [storeAt,Bool.and_eq_true,inB,decide_eq_true_eq] at this; exact ⟨this.1.1,this.1.2⟩
 ·obtain ⟨d,rfl⟩:∃ d,j=i+d+1:=⟨j - i - 1,by omega⟩
  have hs:∀ k,k+1<z.rows.length→keyAt z k<keyAt z (k+1):=fun k hk=>by
   have:=h (k+1) hk
   simp only [storeAt,Bool.and_eq_true,leI,Bool.not_eq_true',decide_eq_false_iff_not] at this
   unfold keyAt
   omega
  clear hij
  induction d with
  | zero=>exact hs i hj
  | succ d ih=>exact Int.lt_trans (ih (by omega)) (hs (i+d+1) hj)
theorem u64_id {x:Int} (h:0≤x) (h':x≤9223372036854775807):IntKind.u64.wrap x=x:=by
 simp only [IntKind.wrap,IntKind.signed,IntKind.bits]
 simp
 omega
theorem half {i j:Nat} (h:i+j≤1000):w64 ((IntKind.u64.wrap (w64 ((i:Int)+(j:Int)))).fdiv (2 ^ (min 1 64)))=(((i+j) / 2:Nat):Int):=by
 rw [w64_id (x:=(i:Int)+j) (by omega) (by omega),u64_id (by omega) (by omega),show ((2:Int) ^ (min 1 64))=((2:Nat):Int) from rfl,show ((i:Int)+(j:Int))=((i+j:Nat):Int) from by omega,← Int.ofNat_fdiv,w64_id (by omega) (by omega)]
theorem bs_loop (p q r:List D) (N:Nat) (hz:Sorted (gd p 0)) (ht:inB (gd q 0).int 0 999=true):∀ (d i j M:Nat),j=i+d→j≤(gd p 0).rows.length→d<M→(∀ k,k<i→keyAt (gd p 0) k<(gd q 0).int)→(∀ k,j≤k→k<(gd p 0).rows.length→(gd q 0).int≤keyAt (gd p 0) k) →
  iter (bsCL0 N p q r) M [gd p 0,gd q 0,gd r 0,.i 0,.i 0,.i ((gd p 0).rows.length:Int),.i (i:Int),.i (j:Int)]=some (2,[gd p 0,gd q 0,gd r 0,.i 0,.i 0,.i ((gd p 0).rows.length:Int),.i (lowN (gd p 0) (gd q 0).int:Int),.i (lowN (gd p 0) (gd q 0).int:Int)]):=by
 intro d
 induction d using Nat.strongRecOn with
 | _ d ih =>
 intro i j M hj hn hM h1 h2
 have hlen:=hz.len
 simp only [inB,Bool.and_eq_true,decide_eq_true_eq] at ht
 obtain ⟨M,rfl⟩:∃ M',M=M'+1:=⟨M - 1,by omega⟩
 rw [iter,bsCR0]
 simp only [int_i]
 by_cases hd:d=0
 ·subst hd
  obtain rfl:j=i:=by omega
  rw [c_nlt,lowN_eq hn h1 h2]
  rfl
 ·rw [c_lt (show i<j from by omega)]
  have hh:(i+j) / 2<(gd p 0).rows.length:=by omega
  simp only [half (show i+j≤1000 from by omega),nd_ix hh,Int.toNat_natCast,show leI 0 1=true from rfl,nd_true]
  have hk:=hz.key _ hh
  rw [show (gd ((gd p 0).rows.getD ((i+j) / 2) []) 0).int=keyAt (gd p 0) ((i+j) / 2) from rfl,w64_id (x:=keyAt (gd p 0) ((i+j) / 2) - (gd q 0).int) (by omega) (by omega)]
  by_cases hc:keyAt (gd p 0) ((i+j) / 2)<(gd q 0).int
  ·rw [ltI_t (show keyAt (gd p 0) ((i+j) / 2) - (gd q 0).int<0 from by omega),cond_true]
   simp only [w64_succ hh (show (gd p 0).rows.length≤9223372036854775807 from by omega)]
   exact ih (j - ((i+j) / 2+1)) (by omega) ((i+j) / 2+1) j M (by omega) hn (by omega) (fun k hk'=>by
    rcases Nat.lt_or_ge k ((i+j) / 2) with h | h
    ·have:=hz.lt k _ h hh; omega
    ·obtain rfl:k=(i+j) / 2:=by omega
     exact hc) h2
  ·rw [ltI_f (show 0≤keyAt (gd p 0) ((i+j) / 2) - (gd q 0).int from by omega),cond_false]
   exact ih ((i+j) / 2 - i) (by omega) i ((i+j) / 2) M (by omega) (by omega) (by omega) h1 (fun k hk1 hk2=>by
    rcases Nat.lt_or_ge ((i+j) / 2) k with h | h
    ·have:=hz.lt _ k h hk2; omega
    ·obtain rfl:k=(i+j) / 2:=by omega
     omega)
def bsCE:Ent:=(289,e3 (sd (.sl 176)) ri (.one (.c (.fn 290 []))) fun p q r=>(⟨.tup [.c (.d si),.c (.d (.bool))],[.i (lowN (gd p 0) (gd q 0).int:Int),.b (bsB (gd p 0) (gd q 0).int)]⟩,storeOk (gd p 0)&&inB (gd q 0).int 0 999))
theorem bsC_ok:EntOk Tryz.prog bsCE:=e3_ok fun p q r h=>evFn_sound (N:=61) (ks:=bsCK) (key:=bo) bsCT_ok (enters Tryz.func289) Tryz.func289 fun hw=>by
 rw [bsC_ev]
 have h:(storeOk (gd p 0)&&inB (gd q 0).int 0 999)=true:=h
 simp only [Bool.and_eq_true] at h
 have hz:=store_sorted h.1
 have hlen:=hz.len
 have e:=bs_loop p q r 61 hz h.2 (gd p 0).rows.length 0 (gd p 0).rows.length 61 (by omega) (Nat.le_refl _) (by omega) (fun k hk=>absurd hk (Nat.not_lt_zero _)) (fun k h1 h2=>absurd h2 (by omega))
 simp only [Int.natCast_zero] at e
 unfold bsCs0
 rw [e]
 simp only [nd,cond_true,cond_false,Option.isSome_some,Out.code,Out.pay,Option.getD_some,gd_cons_zero,gd_cons_succ,Nat.reduceBEq,Nat.reduceAdd,int_i,bool_b,str_s,rows_l,Bool.not_true,Bool.not_false,beq_self_eq_true]
 unfold bsB
 have ht:=h.2
 simp only [inB,Bool.and_eq_true,decide_eq_true_eq] at ht
 by_cases hb:lowN (gd p 0) (gd q 0).int<(gd p 0).rows.length
 ·have hk:=hz.key _ hb
  rw [ltI_nat hb,inRange_nat hb,Int.toNat_natCast,show (gd ((gd p 0).rows.getD (lowN (gd p 0) (gd q 0).int) []) 0).int=keyAt (gd p 0) (lowN (gd p 0) (gd q 0).int) from rfl,w64_id (x:=keyAt (gd p 0) (lowN (gd p 0) (gd q 0).int) - (gd q 0).int) (by omega) (by omega)]
  rw [show (keyAt (gd p 0) (lowN (gd p 0) (gd q 0).int) - (gd q 0).int==0)=(keyAt (gd p 0) (lowN (gd p 0) (gd q 0).int)==(gd q 0).int) from by
   rw [Bool.eq_iff_iff]; simp only [beq_iff_eq]; omega]
  rfl
 ·rw [ltI_f (show ((gd p 0).rows.length:Int)≤(lowN (gd p 0) (gd q 0).int:Int) from by omega)]
  rfl
abbrev i_cellForT:FuncId→List T→Option (T × Bool):=find [bsCE]
theorem i_cellForT_ok:CallOk Tryz.prog i_cellForT:=find_ok (fC ⟨bsC_ok,fN⟩)
abbrev i_cellForK:List Nat:= [0,1,4,5]
theorem i_cellFor_ev (N:Nat) (p q:List D):evFn Tryz.prog i_cellForT N i_cellForK Tryz.f205 (.tup [.c (.d si),.c (.d (.bool))]) [⟨sd (.sl 176),p⟩,⟨ri,q⟩]=some (bo,
 nd (storeOk (gd p 0)&&inB (gd q 0).int 0 999) (some (1,[.i (lowN (gd p 0) (gd q 0).int:Int),.b (bsB (gd p 0) (gd q 0).int)]))):=by kernel_rfl
def i_cellForE:Ent:=(205,e2 (sd (.sl 176)) ri fun p q=>(⟨.tup [.c (.d si),.c (.d (.bool))],[.i (lowN (gd p 0) (gd q 0).int:Int),.b (bsB (gd p 0) (gd q 0).int)]⟩,storeOk (gd p 0)&&inB (gd q 0).int 0 999))
theorem i_cellFor_ok:EntOk Tryz.prog i_cellForE:=e2_ok fun p q h=>evFn_sound (N:=0) (ks:=i_cellForK) (key:=bo) i_cellForT_ok (enters Tryz.func205) Tryz.func205 fun hw=>by
 rw [i_cellFor_ev]
 have h:(storeOk (gd p 0)&&inB (gd q 0).int 0 999)=true:=h
 rw [h,nd_true]
abbrev i_valueOfT:FuncId→List T→Option (T × Bool):=find [i_cellForE]
theorem i_valueOfT_ok:CallOk Tryz.prog i_valueOfT:=find_ok (fC ⟨i_cellFor_ok,fN⟩)
abbrev i_valueOfK:List Nat:= [0,1,4,5,6,14]
theorem i_valueOf_ev (N:Nat) (p q:List D):evFn Tryz.prog i_valueOfT N i_valueOfK Tryz.f97 ri [⟨sd (.sl 176),p⟩,⟨ri,q⟩]=some (bo,
 nd (storeOk (gd p 0)&&inB (gd q 0).int 0 999) (bif !(bsB (gd p 0) (gd q 0).int) then oi (-1)
 else nd (inRange (lowN (gd p 0) (gd q 0).int:Int) (gd p 0).rows.length) (some (1,[gd ((gd p 0).rows.getD (lowN (gd p 0) (gd q 0).int:Int).toNat []) 1])))):=by kernel_rfl
def valD (z:D) (t:Int):D:=bif bsB z t then gd (z.rows.getD (lowN z t) []) 1 else .i (-1)
def i_valueOfE:Ent:=(97,e2 (sd (.sl 176)) ri fun p q=>(⟨ri,[valD (gd p 0) (gd q 0).int]⟩,storeOk (gd p 0)&&inB (gd q 0).int 0 999))
theorem i_valueOf_ok:EntOk Tryz.prog i_valueOfE:=e2_ok fun p q h=>evFn_sound (N:=0) (ks:=i_valueOfK) (key:=bo) i_valueOfT_ok (enters Tryz.func97) Tryz.func97 fun hw=>by
 rw [i_valueOf_ev]
 have h:(storeOk (gd p 0)&&inB (gd q 0).int 0 999)=true:=h
 rw [h,nd_true]
 unfold valD
 cases hb:bsB (gd p 0) (gd q 0).int
 ·rfl
 ·have hb':=hb
  simp only [bsB,Bool.and_eq_true,ltI,decide_eq_true_eq] at hb'
  rw [inRange_nat (show lowN (gd p 0) (gd q 0).int<(gd p 0).rows.length from by omega)]
  rfl
abbrev s_l11GetT:FuncId→List T→Option (T × Bool):=find []
theorem s_l11GetT_ok:CallOk Tryz.prog s_l11GetT:=find_ok (fN)
abbrev s_l11GetK:List Nat:= [0,1,4,5,9,18]
noncomputable def s_l11GetL0 (N:Nat) (p q:List D):List D→Out:=loopOf Tryz.prog s_l11GetT N s_l11GetK Tryz.f109 ri [⟨sd (.sl 176),p⟩,⟨ri,q⟩] 0
theorem s_l11GetR0 (N:Nat) (p q:List D) (x0 x1 x2 x3:D):(s_l11GetL0 N p q) [x0,x1,x2,x3] =
 bif ltI x3.int (x0.rows.length:Int) then nd (inRange x3.int x0.rows.length) (bif (gd (x0.rows.getD x3.int.toNat []) 0).int==x1.int then nd (inRange x3.int x0.rows.length) (some (1,[gd (x0.rows.getD x3.int.toNat []) 1]))
 else nx [x0,x1,x2,.i (w64 (x3.int+1))])
 else ex 0 [x0,x1,x2,x3]:=by kernel_rfl
theorem s_l11Get_ev (N:Nat) (p q:List D):evFn Tryz.prog s_l11GetT N s_l11GetK Tryz.f109 ri [⟨sd (.sl 176),p⟩,⟨ri,q⟩]=some (bo,
 (let o0:=iter (s_l11GetL0 N p q) N [gd p 0,gd q 0,.i 0,.i 0]
  nd o0.isSome (bif o0.code==1 then some (1,o0.pay)
  else nd (o0.code==2) (oi (-1))))):=by kernel_rfl
theorem scan_at {ex:Nat→Option (Nat × List D)} {o:Nat × List D}:∀ (m k i:Nat),i<m→ex (k+i)=some o→(∀ j,j<i→ex (k+j)=none)→scan ex k m=some o
 | 0,_,_,h,_,_=>absurd h (Nat.not_lt_zero _)
 | m+1,k,0,_,h,_=>by rw [scan,show ex k=some o from h]
 | m+1,k,i+1,hi,h,hn=>by
  rw [scan,show ex k=none from hn 0 (by omega)]
  exact scan_at m (k+1) i (by omega) (by rw [show k+1+i=k+(i+1) from by omega]; exact h) fun j hj=>by rw [show k+1+j=k+(j+1) from by omega]; exact hn (j+1) (by omega)
theorem scan_no {ex:Nat→Option (Nat × List D)}:∀ (m k:Nat),(∀ j,j<m→ex (k+j)=none)→scan ex k m=none
 | 0,_,_=>rfl
 | m+1,k,h=>by
  rw [scan,show ex k=none from h 0 (by omega)]
  exact scan_no m (k+1) fun j hj=>by rw [show k+1+j=k+(j+1) from by omega]; exact h (j+1) (by omega)
def s_l11GetE:Ent:=(109,e2 (sd (.sl 176)) ri fun p q=>(⟨ri,[valD (gd p 0) (gd q 0).int]⟩,storeOk (gd p 0)))
theorem s_l11Get_ok:EntOk Tryz.prog s_l11GetE:=e2_ok fun p q h=>evFn_sound (N:=61) (ks:=s_l11GetK) (key:=bo) s_l11GetT_ok (enters Tryz.func109) Tryz.func109 fun hw=>by
 rw [s_l11Get_ev]
 have h:storeOk (gd p 0)=true:=h
 have hz:=store_sorted h
 have hlen:=hz.len
 have e:=iter_scan (step:=s_l11GetL0 61 p q) (fun k => [gd p 0,gd q 0,.i 0,.i (k:Int)]) (fun k=>bif keyAt (gd p 0) k==(gd q 0).int then some (1,[gd ((gd p 0).rows.getD k []) 1]) else none) (2,[gd p 0,gd q 0,.i 0,.i ((gd p 0).rows.length:Int)]) (n:=(gd p 0).rows.length) (fun k hk=>?_) (fun k o h=>?_) ?_ (by simp) (gd p 0).rows.length 0 61 (by omega) (by omega)
 ·simp only [Int.natCast_zero] at e
  rw [e]
  unfold valD
  cases hb:bsB (gd p 0) (gd q 0).int
  ·rw [scan_no _ _ fun j hj=>?_]
   ·rfl
   ·rw [Nat.zero_add]
    cases hk:keyAt (gd p 0) j==(gd q 0).int
    ·rfl
    ·have hk:=eq_of_beq hk
     have hl:lowN (gd p 0) (gd q 0).int=j:=lowN_eq (by omega) (fun k hkj=>by have:=hz.lt k j hkj hj; omega) (fun k h1 h2=>by
      rcases Nat.lt_or_ge j k with h | h
      ·have:=hz.lt j k h h2; omega
      ·obtain rfl:k=j:=by omega
       omega)
     unfold bsB at hb
     rw [hl,ltI_nat hj,hk,beq_self_eq_true] at hb
     cases hb
  ·simp only [bsB,Bool.and_eq_true,ltI,decide_eq_true_eq] at hb
   have hlt:lowN (gd p 0) (gd q 0).int<(gd p 0).rows.length:=by omega
   rw [scan_at _ _ (lowN (gd p 0) (gd q 0).int) hlt (by rw [Nat.zero_add,hb.2]; rfl) fun j hj=>?_]
   ·rfl
   ·rw [Nat.zero_add,show (keyAt (gd p 0) j==(gd q 0).int)=false from beq_eq_false_iff_ne.2 (by
     have:=hz.lt j _ hj hlt
     have:=eq_of_beq hb.2
     omega)]
    rfl
 ·show s_l11GetL0 _ p q [_,_,_,.i (k:Int)]=_
  rw [s_l11GetR0]
  simp only [int_i,c_lt hk,nd_ix hk,w64_succ hk (show (gd p 0).rows.length≤9223372036854775807 from by omega),Int.toNat_natCast]
  rw [show (gd ((gd p 0).rows.getD k []) 0).int=keyAt (gd p 0) k from rfl]
  cases keyAt (gd p 0) k==(gd q 0).int <;> rfl
 ·cases hc:keyAt (gd p 0) k==(gd q 0).int
  ·rw [hc] at h; cases h
  ·rw [hc,cond_true] at h
   injection h with h
   rw [← h]; simp
 ·show s_l11GetL0 _ p q [_,_,_,.i ((gd p 0).rows.length:Int)]=_
  rw [s_l11GetR0]
  simp only [int_i,c_nlt]
end Go.Proofs.YtchceahcaaibcaaGreat
namespace Go.Proofs.YtchceahcaaibcaaGreat
set_option maxRecDepth 4096
set_option maxHeartbeats 1000000
abbrev bsWT:FuncId→List T→Option (T × Bool):=find [i_cellFor_1E]
theorem bsWT_ok:CallOk Tryz.prog bsWT:=find_ok (fC ⟨i_cellFor_1_ok,fN⟩)
abbrev bsWK:List Nat:= [0,1,2,6,7,8,9,10,11,17,31]
noncomputable def bsWL0 (N:Nat) (p q r:List D):List D→Out:=loopOf Tryz.prog bsWT N bsWK Tryz.f289 (.tup [.c (.d si),.c (.d (.bool))]) [⟨sd (.sl 176),p⟩,⟨ri,q⟩,⟨.one (.c (.fn 290 [])),r⟩] 0
theorem bsWR0 (N:Nat) (p q r:List D) (x0 x1 x2 x3 x4 x5 x6 x7:D):(bsWL0 N p q r) [x0,x1,x2,x3,x4,x5,x6,x7] =
 bif ltI x6.int x7.int then nd (leI 0 1) (nd (inRange (w64 ((IntKind.u64.wrap (w64 (x6.int+x7.int))).fdiv (2 ^ (min 1 64)))) x0.rows.length) (bif ltI (w64 ((gd (x0.rows.getD (w64 ((IntKind.u64.wrap (w64 (x6.int+x7.int))).fdiv (2 ^ (min 1 64)))).toNat []) 0).int - x1.int)) 0 then nx [x0,x1,x2,x3,x4,x5,.i (w64 ((w64 ((IntKind.u64.wrap (w64 (x6.int+x7.int))).fdiv (2 ^ (min 1 64))))+1)),x7]
 else nx [x0,x1,x2,x3,x4,x5,x6,.i (w64 ((IntKind.u64.wrap (w64 (x6.int+x7.int))).fdiv (2 ^ (min 1 64))))]))
 else ex 0 [x0,x1,x2,x3,x4,x5,x6,x7]:=by kernel_rfl
noncomputable def bsWs0 (N:Nat) (p q r:List D) (o0:Out):Out:=nd (inRange (gd o0.pay 6).int (gd o0.pay 0).rows.length) (some (1,[gd o0.pay 6,.b ((w64 ((gd ((gd o0.pay 0).rows.getD (gd o0.pay 6).int.toNat []) 0).int - (gd o0.pay 1).int))==0)]))
noncomputable def bsWs1 (N:Nat) (p q r:List D) (o0:Out):Out:=bif ltI (gd o0.pay 6).int (gd o0.pay 5).int then (bsWs0 N p q r o0) else some (1,[gd o0.pay 6,.b false])
noncomputable def bsWs2 (N:Nat) (p q r:List D):Out:=let o0:Out:=iter (bsWL0 N p q r) N [gd p 0,gd q 0,gd r 0,.i 0,.i 0,.i ((gd p 0).rows.length:Int),.i 0,.i ((gd p 0).rows.length:Int)]; nd o0.isSome (nd (o0.code==2) (bsWs1 N p q r o0))
theorem bsW_ev (N:Nat) (p q r:List D):evFn Tryz.prog bsWT N bsWK Tryz.f289 (.tup [.c (.d si),.c (.d (.bool))]) [⟨sd (.sl 176),p⟩,⟨ri,q⟩,⟨.one (.c (.fn 290 [])),r⟩]=some (bo,(bsWs2 N p q r)):=by kernel_rfl
structure SortedW (z:D):Prop where
 len:z.rows.length≤1000
 key:∀ k,k<z.rows.length→0≤keyAt z k∧keyAt z k≤999
 lt:∀ i j,i<j→j<z.rows.length→keyAt z i<keyAt z j
def cellsUp (z:D):Bool:=leI (z.rows.length:Int) 1000&&(List.range z.rows.length).all fun k=>inB (keyAt z k) 0 999&&(k==0||ltI (keyAt z (k - 1)) (keyAt z k))
theorem up_sorted {z:D} (h:cellsUp z=true):SortedW z:=by
 simp only [cellsUp,Bool.and_eq_true,List.all_eq_true,List.mem_range,leI,ltI,inB,decide_eq_true_eq,Bool.or_eq_true,beq_iff_eq] at h
 obtain ⟨hl,h⟩:=h
 refine ⟨by omega,fun k hk=>(h k hk).1,fun i j hij hj=>?_⟩
 obtain ⟨d,rfl⟩:∃ d,j=i+d+1:=⟨j - i - 1,by omega⟩
 have hs:∀ k,k+1<z.rows.length→keyAt z k<keyAt z (k+1):=fun k hk=>by
  rcases (h (k+1) hk).2 with h0 | h0
  ·omega
  ·simpa using h0
 clear hij
 induction d with
 | zero=>exact hs i hj
 | succ d ih=>exact Int.lt_trans (ih (by omega)) (hs (i+d+1) hj)
theorem sorted_up {z:D} (h:SortedW z):cellsUp z=true:=by
 simp only [cellsUp,Bool.and_eq_true,List.all_eq_true,List.mem_range,leI,ltI,inB,decide_eq_true_eq,Bool.or_eq_true,beq_iff_eq]
 refine ⟨by have:=h.len; omega,fun k hk=>⟨h.key k hk,?_⟩⟩
 rcases Nat.eq_zero_or_pos k with rfl | hk0
 ·exact .inl rfl
 ·exact .inr (h.lt (k - 1) k (by omega) hk)
theorem halfW {i j:Nat} (h:i+j≤100000):w64 ((IntKind.u64.wrap (w64 ((i:Int)+(j:Int)))).fdiv (2 ^ (min 1 64)))=(((i+j) / 2:Nat):Int):=by
 rw [w64_id (x:=(i:Int)+j) (by omega) (by omega),u64_id (by omega) (by omega),show ((2:Int) ^ (min 1 64))=((2:Nat):Int) from rfl,show ((i:Int)+(j:Int))=((i+j:Nat):Int) from by omega,← Int.ofNat_fdiv,w64_id (by omega) (by omega)]
theorem bs_loopW (p q r:List D) (N:Nat) (hz:SortedW (gd p 0)) (ht:inB (gd q 0).int 0 999=true):∀ (d i j M:Nat),j=i+d→j≤(gd p 0).rows.length→d<M→(∀ k,k<i→keyAt (gd p 0) k<(gd q 0).int)→(∀ k,j≤k→k<(gd p 0).rows.length→(gd q 0).int≤keyAt (gd p 0) k) →
  iter (bsWL0 N p q r) M [gd p 0,gd q 0,gd r 0,.i 0,.i 0,.i ((gd p 0).rows.length:Int),.i (i:Int),.i (j:Int)]=some (2,[gd p 0,gd q 0,gd r 0,.i 0,.i 0,.i ((gd p 0).rows.length:Int),.i (lowN (gd p 0) (gd q 0).int:Int),.i (lowN (gd p 0) (gd q 0).int:Int)]):=by
 intro d
 induction d using Nat.strongRecOn with
 | _ d ih =>
 intro i j M hj hn hM h1 h2
 have hlen:=hz.len
 simp only [inB,Bool.and_eq_true,decide_eq_true_eq] at ht
 obtain ⟨M,rfl⟩:∃ M',M=M'+1:=⟨M - 1,by omega⟩
 rw [iter,bsWR0]
 simp only [int_i]
 by_cases hd:d=0
 ·subst hd
  obtain rfl:j=i:=by omega
  rw [c_nlt,lowN_eq hn h1 h2]
  rfl
 ·rw [c_lt (show i<j from by omega)]
  have hh:(i+j) / 2<(gd p 0).rows.length:=by omega
  simp only [halfW (show i+j≤100000 from by omega),nd_ix hh,Int.toNat_natCast,show leI 0 1=true from rfl,nd_true]
  have hk:=hz.key _ hh
  rw [show (gd ((gd p 0).rows.getD ((i+j) / 2) []) 0).int=keyAt (gd p 0) ((i+j) / 2) from rfl,w64_id (x:=keyAt (gd p 0) ((i+j) / 2) - (gd q 0).int) (by omega) (by omega)]
  by_cases hc:keyAt (gd p 0) ((i+j) / 2)<(gd q 0).int
  ·rw [ltI_t (show keyAt (gd p 0) ((i+j) / 2) - (gd q 0).int<0 from by omega),cond_true]
   simp only [w64_succ hh (show (gd p 0).rows.length≤9223372036854775807 from by omega)]
   exact ih (j - ((i+j) / 2+1)) (by omega) ((i+j) / 2+1) j M (by omega) hn (by omega) (fun k hk'=>by
    rcases Nat.lt_or_ge k ((i+j) / 2) with h | h
    ·have:=hz.lt k _ h hh; omega
    ·obtain rfl:k=(i+j) / 2:=by omega
     exact hc) h2
  ·rw [ltI_f (show 0≤keyAt (gd p 0) ((i+j) / 2) - (gd q 0).int from by omega),cond_false]
   exact ih ((i+j) / 2 - i) (by omega) i ((i+j) / 2) M (by omega) (by omega) (by omega) h1 (fun k hk1 hk2=>by
    rcases Nat.lt_or_ge ((i+j) / 2) k with h | h
    ·have:=hz.lt _ k h hk2; omega
    ·obtain rfl:k=(i+j) / 2:=by omega
     omega)
def bsWE:Ent:=(289,e3 (sd (.sl 176)) ri (.one (.c (.fn 290 []))) fun p q r=>(⟨.tup [.c (.d si),.c (.d (.bool))],[.i (lowN (gd p 0) (gd q 0).int:Int),.b (bsB (gd p 0) (gd q 0).int)]⟩,cellsUp (gd p 0)&&inB (gd q 0).int 0 999))
theorem bsW_ok:EntOk Tryz.prog bsWE:=e3_ok fun p q r h=>evFn_sound (N:=1001) (ks:=bsWK) (key:=bo) bsWT_ok (enters Tryz.func289) Tryz.func289 fun hw=>by
 rw [bsW_ev]
 have h:(cellsUp (gd p 0)&&inB (gd q 0).int 0 999)=true:=h
 simp only [Bool.and_eq_true] at h
 have hz:=up_sorted h.1
 have hlen:=hz.len
 have e:=bs_loopW p q r 1001 hz h.2 (gd p 0).rows.length 0 (gd p 0).rows.length 1001 (by omega) (Nat.le_refl _) (by omega) (fun k hk=>absurd hk (Nat.not_lt_zero _)) (fun k h1 h2=>absurd h2 (by omega))
 simp only [Int.natCast_zero] at e
 unfold bsWs2 bsWs1 bsWs0
 rw [e]
 simp only [nd,cond_true,cond_false,Option.isSome_some,Out.code,Out.pay,Option.getD_some,gd_cons_zero,gd_cons_succ,Nat.reduceBEq,Nat.reduceAdd,int_i,bool_b,str_s,rows_l,Bool.not_true,Bool.not_false,beq_self_eq_true]
 unfold bsB
 have ht:=h.2
 simp only [inB,Bool.and_eq_true,decide_eq_true_eq] at ht
 by_cases hb:lowN (gd p 0) (gd q 0).int<(gd p 0).rows.length
 ·have hk:=hz.key _ hb
  rw [ltI_nat hb,inRange_nat hb,Int.toNat_natCast,show (gd ((gd p 0).rows.getD (lowN (gd p 0) (gd q 0).int) []) 0).int=keyAt (gd p 0) (lowN (gd p 0) (gd q 0).int) from rfl,w64_id (x:=keyAt (gd p 0) (lowN (gd p 0) (gd q 0).int) - (gd q 0).int) (by omega) (by omega)]
  rw [show (keyAt (gd p 0) (lowN (gd p 0) (gd q 0).int) - (gd q 0).int==0)=(keyAt (gd p 0) (lowN (gd p 0) (gd q 0).int)==(gd q 0).int) from by
   rw [Bool.eq_iff_iff]; simp only [beq_iff_eq]; omega]
  rfl
 ·rw [ltI_f (show ((gd p 0).rows.length:Int)≤(lowN (gd p 0) (gd q 0).int:Int) from by omega)]
  rfl
abbrev i_cellForWT:FuncId→List T→Option (T × Bool):=find [bsWE]
theorem i_cellForWT_ok:CallOk Tryz.prog i_cellForWT:=find_ok (fC ⟨bsW_ok,fN⟩)
abbrev i_cellForWK:List Nat:= [0,1,4,5]
theorem i_cellForW_ev (N:Nat) (p q:List D):evFn Tryz.prog i_cellForWT N i_cellForWK Tryz.f205 (.tup [.c (.d si),.c (.d (.bool))]) [⟨sd (.sl 176),p⟩,⟨ri,q⟩]=some (bo,
 nd (cellsUp (gd p 0)&&inB (gd q 0).int 0 999) (some (1,[.i (lowN (gd p 0) (gd q 0).int:Int),.b (bsB (gd p 0) (gd q 0).int)]))):=by kernel_rfl
def i_cellForWE:Ent:=(205,e2 (sd (.sl 176)) ri fun p q=>(⟨.tup [.c (.d si),.c (.d (.bool))],[.i (lowN (gd p 0) (gd q 0).int:Int),.b (bsB (gd p 0) (gd q 0).int)]⟩,cellsUp (gd p 0)&&inB (gd q 0).int 0 999))
theorem i_cellForW_ok:EntOk Tryz.prog i_cellForWE:=e2_ok fun p q h=>evFn_sound (N:=0) (ks:=i_cellForWK) (key:=bo) i_cellForWT_ok (enters Tryz.func205) Tryz.func205 fun hw=>by
 rw [i_cellForW_ev]
 have h:(cellsUp (gd p 0)&&inB (gd q 0).int 0 999)=true:=h
 rw [h,nd_true]
abbrev i_valueOfWT:FuncId→List T→Option (T × Bool):=find [i_cellForWE]
theorem i_valueOfWT_ok:CallOk Tryz.prog i_valueOfWT:=find_ok (fC ⟨i_cellForW_ok,fN⟩)
abbrev i_valueOfWK:List Nat:= [0,1,4,5,6,14]
theorem i_valueOfW_ev (N:Nat) (p q:List D):evFn Tryz.prog i_valueOfWT N i_valueOfWK Tryz.f97 ri [⟨sd (.sl 176),p⟩,⟨ri,q⟩]=some (bo,
 nd (cellsUp (gd p 0)&&inB (gd q 0).int 0 999) (bif !(bsB (gd p 0) (gd q 0).int) then oi (-1)
 else nd (inRange (lowN (gd p 0) (gd q 0).int:Int) (gd p 0).rows.length) (some (1,[gd ((gd p 0).rows.getD (lowN (gd p 0) (gd q 0).int:Int).toNat []) 1])))):=by kernel_rfl
def i_valueOfWE:Ent:=(97,e2 (sd (.sl 176)) ri fun p q=>(⟨ri,[valD (gd p 0) (gd q 0).int]⟩,cellsUp (gd p 0)&&inB (gd q 0).int 0 999))
theorem i_valueOfW_ok:EntOk Tryz.prog i_valueOfWE:=e2_ok fun p q h=>evFn_sound (N:=0) (ks:=i_valueOfWK) (key:=bo) i_valueOfWT_ok (enters Tryz.func97) Tryz.func97 fun hw=>by
 rw [i_valueOfW_ev]
 have h:(cellsUp (gd p 0)&&inB (gd q 0).int 0 999)=true:=h
 rw [h,nd_true]
 unfold valD
 cases hb:bsB (gd p 0) (gd q 0).int
 ·rfl
 ·have hb':=hb
  simp only [bsB,Bool.and_eq_true,ltI,decide_eq_true_eq] at hb'
  rw [inRange_nat (show lowN (gd p 0) (gd q 0).int<(gd p 0).rows.length from by omega)]
  rfl
abbrev s_l11GetWT:FuncId→List T→Option (T × Bool):=find []
theorem s_l11GetWT_ok:CallOk Tryz.prog s_l11GetWT:=find_ok (fN)
abbrev s_l11GetWK:List Nat:= [0,1,4,5,9,18]
noncomputable def s_l11GetWL0 (N:Nat) (p q:List D):List D→Out:=loopOf Tryz.prog s_l11GetWT N s_l11GetWK Tryz.f109 ri [⟨sd (.sl 176),p⟩,⟨ri,q⟩] 0
theorem s_l11GetWR0 (N:Nat) (p q:List D) (x0 x1 x2 x3:D):(s_l11GetWL0 N p q) [x0,x1,x2,x3] =
 bif ltI x3.int (x0.rows.length:Int) then nd (inRange x3.int x0.rows.length) (bif (gd (x0.rows.getD x3.int.toNat []) 0).int==x1.int then nd (inRange x3.int x0.rows.length) (some (1,[gd (x0.rows.getD x3.int.toNat []) 1]))
 else nx [x0,x1,x2,.i (w64 (x3.int+1))])
 else ex 0 [x0,x1,x2,x3]:=by kernel_rfl
theorem s_l11GetW_ev (N:Nat) (p q:List D):evFn Tryz.prog s_l11GetWT N s_l11GetWK Tryz.f109 ri [⟨sd (.sl 176),p⟩,⟨ri,q⟩]=some (bo,
 (let o0:=iter (s_l11GetWL0 N p q) N [gd p 0,gd q 0,.i 0,.i 0]
  nd o0.isSome (bif o0.code==1 then some (1,o0.pay)
  else nd (o0.code==2) (oi (-1))))):=by kernel_rfl
def s_l11GetWE:Ent:=(109,e2 (sd (.sl 176)) ri fun p q=>(⟨ri,[valD (gd p 0) (gd q 0).int]⟩,cellsUp (gd p 0)))
theorem s_l11GetW_ok:EntOk Tryz.prog s_l11GetWE:=e2_ok fun p q h=>evFn_sound (N:=1001) (ks:=s_l11GetWK) (key:=bo) s_l11GetWT_ok (enters Tryz.func109) Tryz.func109 fun hw=>by
 rw [s_l11GetW_ev]
 have h:cellsUp (gd p 0)=true:=h
 have hz:=up_sorted h
 have hlen:=hz.len
 have e:=iter_scan (step:=s_l11GetWL0 1001 p q) (fun k => [gd p 0,gd q 0,.i 0,.i (k:Int)]) (fun k=>bif keyAt (gd p 0) k==(gd q 0).int then some (1,[gd ((gd p 0).rows.getD k []) 1]) else none) (2,[gd p 0,gd q 0,.i 0,.i ((gd p 0).rows.length:Int)]) (n:=(gd p 0).rows.length) (fun k hk=>?_) (fun k o h=>?_) ?_ (by simp) (gd p 0).rows.length 0 1001 (by omega) (by omega)
 ·simp only [Int.natCast_zero] at e
  rw [e]
  unfold valD
  cases hb:bsB (gd p 0) (gd q 0).int
  ·rw [scan_no _ _ fun j hj=>?_]
   ·rfl
   ·rw [Nat.zero_add]
    cases hk:keyAt (gd p 0) j==(gd q 0).int
    ·rfl
    ·have hk:=eq_of_beq hk
     have hl:lowN (gd p 0) (gd q 0).int=j:=lowN_eq (by omega) (fun k hkj=>by have:=hz.lt k j hkj hj; omega) (fun k h1 h2=>by
      rcases Nat.lt_or_ge j k with h | h
      ·have:=hz.lt j k h h2; omega
      ·obtain rfl:k=j:=by omega
       omega)
     unfold bsB at hb
     rw [hl,ltI_nat hj,hk,beq_self_eq_true] at hb
     cases hb
  ·simp only [bsB,Bool.and_eq_true,ltI,decide_eq_true_eq] at hb
   have hlt:lowN (gd p 0) (gd q 0).int<(gd p 0).rows.length:=by omega
   rw [scan_at _ _ (lowN (gd p 0) (gd q 0).int) hlt (by rw [Nat.zero_add,hb.2]; rfl) fun j hj=>?_]
   ·rfl
   ·rw [Nat.zero_add,show (keyAt (gd p 0) j==(gd q 0).int)=false from beq_eq_false_iff_ne.2 (by
     have:=hz.lt j _ hj hlt
     have:=eq_of_beq hb.2
     omega)]
    rfl
 ·show s_l11GetWL0 _ p q [_,_,_,.i (k:Int)]=_
  rw [s_l11GetWR0]
  simp only [int_i,c_lt hk,nd_ix hk,w64_succ hk (show (gd p 0).rows.length≤9223372036854775807 from by omega),Int.toNat_natCast]
  rw [show (gd ((gd p 0).rows.getD k []) 0).int=keyAt (gd p 0) k from rfl]
  cases keyAt (gd p 0) k==(gd q 0).int <;> rfl
 ·cases hc:keyAt (gd p 0) k==(gd q 0).int
  ·rw [hc] at h; cases h
  ·rw [hc,cond_true] at h
   injection h with h
   rw [← h]; simp
 ·show s_l11GetWL0 _ p q [_,_,_,.i ((gd p 0).rows.length:Int)]=_
  rw [s_l11GetWR0]
  simp only [int_i,c_nlt]
end Go.Proofs.YtchceahcaaibcaaGreat
namespace Go.Proofs.YtchceahcaaibcaaGreat.H
open Go.RowKit Go.Lib
set_option maxRecDepth 100000
set_option maxHeartbeats 4000000
theorem run_copy2 {P:Program} (w:World) (dT sT ty elem k:TypeId) (b o n dLen dCap:Nat) (a:Addr) (sLen sCap:Nat) (cs:List Value)
  (hu:P.underlying dT=some (.slice elem)) (hs:(P.info? elem).map (·.size)=some k) (hn:n=Nat.min sLen dLen) (hl:cs.length=n*k)
  (hsrc:∀ j v,cs[j]?=some v→w.cell? (a.add j)=some v) (hc:∀ j,j<cs.length→(w.cell? ⟨b,o+j,none⟩).isSome=true) (hf:∀ j,j<cs.length→w.frozen? ⟨b,o+j,none⟩=false) (h1:∀ v∈cs,v.oneCell'=true) :
  (Builtin.copy_ #[dT,sT] ty #[.slice (some ⟨b,o,none⟩) dLen dCap,.slice (some a) sLen sCap]).run P w=.ok (goInt n) (w.setCells b o cs):=by
 have hld:=run_loadCells_list (P:=P) w a cs hsrc
 have hst:=run_storeCells_cells (P:=P) b o cs 0 w (by simpa using hc) (by simpa using hf) h1
 cases hq:P.info? elem with
 | none=>simp [hq] at hs
 | some i =>
  have hi:i.size=k:=by simpa [hq] using hs
  rw [hl] at hld
  simp [Builtin.copy_,run_underlying hu,Builtin.lenOf,Builtin.firstCells,sizeOf,typeInfo,hq,hi,← hn,hld,hst]
theorem run_clear2 {P:Program} (w:World) (t e ty:TypeId) (z:Value) (ht:P.underlying t=some (.slice e)) (hv:∀ w,(zeroValue e).run P w=.ok z w) (h1:∀ u∈z.cells.toList,u.oneCell'=true) (b o c:Nat) (hs:0<z.cells.size)
  (hc:∀ j,j<z.cells.size→(w.cell? ⟨b,o+j,none⟩).isSome=true) (hf:∀ j,j<z.cells.size→w.frozen? ⟨b,o+j,none⟩=false) :
  (Builtin.clear_ #[t] ty #[.slice (some ⟨b,o,none⟩) 1 c]).run P w=.ok (.tuple #[]) (w.setCells b o z.cells.toList):=by
 have hzc:(Builtin.zeroCells z.cells 1).toList=z.cells.toList:=by
  apply List.ext_getElem
  ·simp [Builtin.zeroCells]
  ·intro j h1 h2
   have h2':j<z.cells.size:=by simpa using h2
   simp [Builtin.zeroCells,Nat.mod_eq_of_lt h2',getElem!_pos z.cells j h2']
 have hst:=run_storeCells_cells (P:=P) b o z.cells.toList 0 w (by simpa using hc) (by simpa using hf) h1
 simp [Builtin.clear_,run_underlying ht,hv,hzc,hst]
theorem isSome_set (b:Nat) (vs:List Value) (o:Nat) (w:World) (h:∀ j,j<vs.length→(w.cell? ⟨b,o+j,none⟩).isSome=true) (k:Nat) (hk:(w.cell? ⟨b,k,none⟩).isSome=true):((w.setCells b o vs).cell? ⟨b,k,none⟩).isSome=true:=by
 by_cases hin:o≤k∧k<o+vs.length
 ·obtain ⟨j,rfl⟩:∃ j,k=o+j:=⟨k - o,by omega⟩
  rw [World.cell?_setCells_in b vs o w h j (by omega)]; rfl
 ·rw [World.cell?_setCells_out b _ _ _ _ (fun _ _=>by show k<o∨_≤k; omega)]
  exact hk
abbrev zc:Value:=.agg #[.int .i64 0,.int .i64 0]
theorem zc_run (w:World):(zeroValue 176).run Tryz.prog w=.ok zc w:=Tryz.zeroValue176 w
theorem info_cell:(Tryz.prog.info? 176).map (fun i=>(i.zero,i.size,i.bytes))=some (some zc,2,16):=by kernel_rfl
theorem del_cell (b off n c i j:Nat) (cs:List Value) (w:World) (hj:j=i+1) (hi:i<n) (hnc:n≤c) (hc63:c≤9223372036854775807) (hcl:cs.length=n*2) (hcs:∀ j v,cs[j]?=some v→w.cell? ⟨b,off+j,none⟩=some v)
  (hfz:∀ j,j<n*2→w.frozen? ⟨b,off+j,none⟩=false) (h1:∀ v∈cs,v.oneCell'=true) :
  Calls Tryz.prog 334 #[.slice (some ⟨b,off,none⟩) n c,.int .i64 i,.int .i64 j] w fun e w' =>
   e=.returned (.slice (some ⟨b,off,none⟩) (n - 1) c)∧w'=(w.drew.setCells b (off+i*2) (cs.drop (j*2))).setCells b (off+(n - 1)*2) zc.cells.toList:=by
 obtain ⟨i0,hi0,hz0,hzs,hzb⟩:=info_parts info_cell
 have hsome:∀ j,j<n*2→(w.cell? ⟨b,off+j,none⟩).isSome=true:=fun j hj=>by
  rw [hcs j _ (List.getElem?_eq_getElem (by omega))]; rfl
 have mixed:Tryz.prog.follows .mixedOrders=true:=by kernel_rfl
 have hij:¬ ((i:Int)=(j:Int)):=by omega
 obtain ⟨news,hnews⟩:∃ news,news=cs.drop (j*2):=⟨_,rfl⟩
 have hnl:news.length=(n - j)*2:=by rw [hnews,List.length_drop,hcl,Nat.sub_mul]
 have hng:∀ t u,news[t]?=some u→w.cell? ⟨b,off+j*2+t,none⟩=some u:=fun t u hu=>by
  rw [hnews,List.getElem?_drop] at hu
  rw [Nat.add_assoc]
  exact hcs _ u hu
 have s2:Hid (∀ u∈news,u.oneCell'=true):=fun u hu=>h1 u (by rw [hnews] at hu; exact List.mem_of_mem_drop hu)
 obtain ⟨A,hA,hsrc⟩:∃ A:Addr,(if c=j then some (⟨b,off,none⟩:Addr) else some ⟨b,off+j*2,none⟩)=some A∧Hid (∀ t u,news[t]?=some u→w.drew.cell? (A.add t)=some u):=by
  by_cases h:c=j
  ·refine ⟨⟨b,off,none⟩,by simp [h],fun t u hu=>?_⟩
   have h0:news.length=0:=by rw [hnl]; omega
   rw [List.length_eq_zero_iff.1 h0] at hu
   simp at hu
  ·refine ⟨⟨b,off+j*2,none⟩,by simp [h],fun t u hu=>?_⟩
   rw [Addr.add_lit]
   exact hng t u hu
 have s1:Hid (news.length=(n - j)*2):=hnl
 have s3:Hid (∀ t,t<news.length→(w.drew.cell? ⟨b,off+i*2+t,none⟩).isSome=true∧w.drew.frozen? ⟨b,off+i*2+t,none⟩=false):=fun t ht=>by
  rw [hnl] at ht
  rw [Nat.add_assoc]
  exact ⟨hsome _ (by omega),hfz _ (by omega)⟩
 obtain ⟨W1,hW1⟩:∃ W1,W1=w.drew.setCells b (off+i*2) news:=⟨_,rfl⟩
 have hcl2:∀ ty cc,(Builtin.clear_ #[41] ty #[.slice (some ⟨b,off+(n - 1)*2,none⟩) 1 cc]).run Tryz.prog W1=.ok (.tuple #[]) (W1.setCells b (off+(n - 1)*2) zc.cells.toList):=fun ty cc=>by
  refine run_clear2 W1 _ _ ty zc Tryz.underlying41 zc_run (fun u hu=>?_) b _ cc (by decide) (fun t ht=>?_) (fun t ht=>?_)
  ·simp [Value.cells] at hu; subst hu; rfl
  ·have ht:t<2:=ht
   rw [hW1]
   refine isSome_set b _ _ _ (fun j hj=>?_) _ ?_
   ·rw [Nat.add_assoc]; exact hsome _ (by omega)
   ·rw [Nat.add_assoc]; exact hsome _ (by omega)
  ·have ht:t<2:=ht
   rw [hW1,World.frozen?_setCells,Nat.add_assoc]
   exact hfz _ (by omega)
 have hWh:Hid (W1=w.drew.setCells b (off+i*2) news):=hW1
 have e1:i+(n - j)=n - 1:=by omega
 have e2:n - (n - 1)=1:=by omega
 have b1:i≤c:=by omega
 have b2:j≤c:=by omega
 have b5:j≤n:=by omega
 have b6:i≤j:=by omega
 have b3:¬ (c=n - 1):=by omega
 have b4:n - 1≤n:=by omega
 clear hW1 hcs hfz hsome hng hnl hj
 go_enter Tryz.func334,Tryz.ntmps334
 go_wp2_with fail
 go_region_law_o (refine step_append_room rfl (.tmp 22) (.tmp 25) 41 rfl 176 i0 2 Tryz.underlying41 hi0 hzs b off i c (by simp [Act.eval,Act.put]) A (n - j) (c - j) news (by simp [Act.eval,Act.put]) s1.out hsrc.out s2.out (by omega) s3.out ?_; rw [← hWh.out,e1])
 go_wp2
 go_ret
 refine ⟨rfl,?_⟩
 rw [hWh.out,hnews]
 rfl
theorem ins_shift (b off n c i k vb voff vc:Nat) (cs vs:List Value) (w:World) (hk:k=i+1) (hi:i<n) (hroom:n+1≤c) (hc63:c≤9223372036854775807) (hvb:vb≠b)
  (hcl:cs.length=n*2) (hvl:vs.length=2)
  (hcs:∀ j v,cs[j]?=some v→w.cell? ⟨b,off+j,none⟩=some v) (hsp:∀ j,j<(n+1)*2→(w.cell? ⟨b,off+j,none⟩).isSome=true) (hfz:∀ j,j<(n+1)*2→w.frozen? ⟨b,off+j,none⟩=false)
  (hvs:∀ j v,vs[j]?=some v→w.cell? ⟨vb,voff+j,none⟩=some v) (h1c:∀ v∈cs,v.oneCell'=true) (h1v:∀ v∈vs,v.oneCell'=true)
  (tA tB:TypeId) (kA kB:Nat) (hsa:w.shape? vb=some (tA,kA)) (hsb:w.shape? b=some (tB,kB)) (hkB:kB≠0) (hfa:w.frozen? ⟨vb,voff,none⟩=false) (hfe:w.frozen? ⟨vb,kA,none⟩=false) :
  Calls Tryz.prog 336 #[.slice (some ⟨b,off,none⟩) n c,.int .i64 i,.slice (some ⟨vb,voff,none⟩) 1 vc] w fun e w' =>
   e=.returned (.slice (some ⟨b,off,none⟩) (n+1) c)∧w'=(w.drew.setCells b (off+k*2) (cs.drop (i*2))).setCells b (off+i*2) vs:=by
 obtain ⟨i0,hi0,hz0,hzs,hzb⟩:=info_parts info_cell
 have mixed:Tryz.prog.follows .mixedOrders=true:=by kernel_rfl
 have hz2:¬ ((i:Int)=(n:Int)):=by omega
 have hsz:(Tryz.prog.info? 176).map (·.size)=some 2:=by rw [hi0]; simp [hzs]
 have u41:=Tryz.underlying41
 have hov:∀ lb cb,(callFunc 345 #[.slice (some ⟨vb,voff,none⟩) 1 vc,.slice (some ⟨b,off+k*2,none⟩) lb cb]).run Tryz.prog w=.ok (.value (.bool false)) w:=fun lb cb=>by
  rw [run_callFunc_extern Tryz.func345 (by kernel_rfl) (by kernel_rfl) (by kernel_rfl) (e:=Extern.SlicesOverlaps.overlaps #[41,41] #[4]) (by kernel_rfl),
   Lib.run_overlaps_apart w 41 4 176 u41 2 Tryz.sizeOf176 ⟨vb,voff,none⟩ ⟨b,off+k*2,none⟩ 1 vc lb cb hvb tA tB kA kB hsa hsb hkB hfa hfe]
  rfl
 have hdl:(cs.drop (i*2)).length=(n - i)*2:=by rw [List.length_drop,hcl,Nat.sub_mul]
 have hcp1:∀ ty dc sc,(Builtin.copy_ #[41,41] ty #[.slice (some ⟨b,off+k*2,none⟩) (n+1 - k) dc,.slice (some ⟨b,off+i*2,none⟩) (n+1 - i) sc]).run Tryz.prog w.drew=.ok (goInt ((n - i:Nat):Int)) (w.drew.setCells b (off+k*2) (cs.drop (i*2))):=fun ty dc sc =>
  run_copy2 w.drew _ _ ty 176 2 b (off+k*2) (n - i) (n+1 - k) dc ⟨b,off+i*2,none⟩ (n+1 - i) sc (cs.drop (i*2)) u41 hsz (by simp only [Nat.min_def]; split <;> omega) hdl
   (fun j v hj=>by rw [Addr.add_lit,Nat.add_assoc]; exact hcs (i*2+j) v (by rwa [List.getElem?_drop] at hj))
   (fun j hj=>by rw [hdl] at hj; rw [Nat.add_assoc]; exact hsp _ (by omega)) (fun j hj=>by rw [hdl] at hj; rw [Nat.add_assoc]; exact hfz _ (by omega)) (fun v hv=>h1c v (List.mem_of_mem_drop hv))
 obtain ⟨W1,hW1⟩:∃ W1,W1=w.drew.setCells b (off+k*2) (cs.drop (i*2)):=⟨_,rfl⟩
 have hsp1:∀ t,t<(n+1)*2→(W1.cell? ⟨b,off+t,none⟩).isSome=true:=fun t ht=>by
  rw [hW1]
  exact isSome_set b _ _ _ (fun j hj=>by rw [hdl] at hj; rw [Nat.add_assoc]; exact hsp _ (by omega)) _ (hsp t ht)
 have hcp2:∀ (W:World),(∀ x,W.cell? x=W1.cell? x)→(∀ x,W.frozen? x=W1.frozen? x)→∀ ty dc,(Builtin.copy_ #[41,41] ty #[.slice (some ⟨b,off+i*2,none⟩) (n+1 - i) dc,.slice (some ⟨vb,voff,none⟩) 1 vc]).run Tryz.prog W=.ok (goInt 1) (W.setCells b (off+i*2) vs):=fun W hWc hWf ty dc =>
  run_copy2 W _ _ ty 176 2 b (off+i*2) 1 (n+1 - i) dc ⟨vb,voff,none⟩ 1 vc vs u41 hsz (by simp only [Nat.min_def]; split <;> omega) (by rw [hvl])
   (fun j v hj=>by
    rw [Addr.add_lit,hWc,hW1,World.cell?_setCells_out b _ _ _ _ (fun h _=>absurd h hvb)]
    exact hvs j v hj)
   (fun j hj=>by rw [hvl] at hj; rw [hWc,Nat.add_assoc]; exact hsp1 _ (by omega)) (fun j hj=>by rw [hvl] at hj; rw [hWf,hW1,World.frozen?_setCells,Nat.add_assoc]; exact hfz _ (by omega)) h1v
 have hE:Hid (W1=w.drew.setCells b (off+k*2) (cs.drop (i*2))):=hW1
 rw [← hW1] at hcp1
 have hw1:IntKind.i64.wrap ((n:Int)+1)=((n+1:Nat):Int):=by rw [IntKind.wrap_i64]; omega
 have hw2:IntKind.i64.wrap ((i:Int)+1)=(k:Int):=by rw [IntKind.wrap_i64]; omega
 have hnc:¬ ((n:Int)+1 > (c:Int)):=by omega
 have hb2:¬ (c=k):=by omega
 have hb4:¬ (c=i):=by omega
 have hin:i≤n:=by omega
 have hkn:(k:Int)≤(n:Int)+1:=by omega
 have hin2:(i:Int)≤(n:Int)+1:=by omega
 have hin1:i≤n+1:=by omega
 clear hsp hfz hcs hvs hsp1 hW1 hsa hsb hfa hfe hk hdl
 go_enter Tryz.func336,Tryz.ntmps336
 go_wp2_with (simp only [hov])
 go_region_law_o (refine step_copy_runI rfl _ _ 41 41 rfl _ _ (by simp [Act.eval,Act.put]) (by simp [Act.eval,Act.put]) (hcp1 _ _ _) ?_)
 go_wp2_with (at_builtin; refine wpList_copy_runI _ rfl _ _ 41 41 rfl _ _ rfl rfl (hcp2 _ (fun _=>rfl) (fun _=>rfl) _ _) ?_)
 go_ret
 exact ⟨rfl,by rw [hE.out]⟩
theorem ins_end (base:Option Addr) (n c vb voff vc:Nat) (w w1:World) (v':Value) (hnc:n≤c) (hc63:c≤9223372036854775807) (hb:base=none→c=0) (hr:∀ ty,(Builtin.append_ #[41,41] ty #[.slice base n c,.slice (some ⟨vb,voff,none⟩) 1 vc]).run Tryz.prog w=.ok v' w1) :
  Calls Tryz.prog 336 #[.slice base n c,.int .i64 n,.slice (some ⟨vb,voff,none⟩) 1 vc] w fun e w'=>e=.returned v'∧w'=w1:=by
 have mixed:Tryz.prog.follows .mixedOrders=true:=by kernel_rfl
 cases base with
 | none =>
  have h0:=hb rfl
  subst h0
  obtain rfl:n=0:=by omega
  go_enter Tryz.func336,Tryz.ntmps336
  go_wp2_with (at_builtin; refine Lib.wpList_append_run _ rfl _ _ _ _ rfl _ _ rfl rfl _ _ (hr _) ?_)
  all_goals (go_ret; exact ⟨rfl,rfl⟩)
 | some a =>
  obtain ⟨ab,ao,asp⟩:=a
  go_enter Tryz.func336,Tryz.ntmps336
  go_wp2_with (at_builtin; refine Lib.wpList_append_run _ rfl _ _ _ _ rfl _ _ rfl rfl _ _ (hr _) ?_)
  all_goals (go_ret; exact ⟨rfl,rfl⟩)
theorem ins_grow (b off n i k vb voff vc:Nat) (cs vs:List Value) (w:World) (hk:k=i+1) (hi:i<n) (hbig:(n+1)*16≤140737488355328)
  (hcl:cs.length=n*2) (hvl:vs.length=2)
  (hcs:∀ j v,cs[j]?=some v→w.cell? ⟨b,off+j,none⟩=some v)
  (hvs:∀ j v,vs[j]?=some v→w.cell? ⟨vb,voff+j,none⟩=some v) (h1c:∀ v∈cs,v.oneCell'=true) (h1v:∀ v∈vs,v.oneCell'=true) :
  Calls Tryz.prog 336 #[.slice (some ⟨b,off,none⟩) n n,.int .i64 i,.slice (some ⟨vb,voff,none⟩) 1 vc] w fun e w' =>
   e=.returned (.slice (some ⟨w.heap.size,0,none⟩) (n+1) (grownCap w (n+1) n 176)) ∧
   w'=(((w.alloc (.cells ((cs.take (i*2)).toArray++Builtin.zeroCells zc.cells (n+1 - i)++Builtin.zeroCells zc.cells (grownCap w (n+1) n 176 - (n+1))) 176)).drew.setCells w.heap.size (i*2) vs).drew).setCells w.heap.size (k*2) (cs.drop (i*2)):=by
 obtain ⟨i0,hi0,hz0,hzs,hzb⟩:=info_parts info_cell
 have mixed:Tryz.prog.follows .mixedOrders=true:=by kernel_rfl
 have u41:=Tryz.underlying41
 have u3:=Tryz.underlying3
 have hz2:¬ ((i:Int)=(n:Int)):=by omega
 have hsz:(Tryz.prog.info? 176).map (·.size)=some 2:=by rw [hi0]; simp [hzs]
 have hbw:b<w.heap.size:=block_lt_of_cell (hcs 0 _ (List.getElem?_eq_getElem (by omega)))
 have hvw:vb<w.heap.size:=block_lt_of_cell (hvs 0 _ (List.getElem?_eq_getElem (by omega)))
 have hik:i+(n+1 - i)=n+1:=by omega
 have hold:(Builtin.firstCells i0.size i (.slice (some ⟨b,off,none⟩) i n)).run Tryz.prog w.drew=.ok (cs.take (i*2)).toArray w.drew:=by
  rw [hzs]
  exact run_firstCells_some w.drew 2 i ⟨b,off,none⟩ i n (cs.take (i*2)) (by rw [List.length_take]; omega) (fun j v hj=>by
   rw [Addr.add_lit]
   rw [List.getElem?_take] at hj
   split at hj
   ·exact hcs j v hj
   ·cases hj)
 have hkk:IntKind.i64.wrap (((n+1:Nat):Int) - (i:Int))=((n+1 - i:Nat):Int):=by rw [IntKind.wrap_i64]; omega
 have hrz:∀ ty,(Builtin.append_ #[41,3] ty #[.slice (some ⟨b,off,none⟩) i n,.int .i64 ((n+1 - i:Nat):Int)]).run Tryz.prog w =
   .ok (.slice (some ⟨w.heap.size,0,none⟩) (n+1) (grownCap w (n+1) n 176)) (w.drew.alloc (.cells ((cs.take (i*2)).toArray++Builtin.zeroCells zc.cells (n+1 - i)++Builtin.zeroCells zc.cells (grownCap w (n+1) n 176 - (n+1))) 176)):=fun ty=>by
  have h:=Lib.run_append_grow_zeros w 41 3 ty 176 i0 zc .i64 .i64 u41 u3 hi0 hz0 (some ⟨b,off,none⟩) i n (cs.take (i*2)) hold (n+1 - i) (by omega) (by omega) (by omega) (by omega) (by rw [hzb]; omega) (by rw [hzb,hik]; exact growslice_fits (by omega) hbig)
  rw [hik] at h
  exact h
 obtain ⟨G,hG⟩:∃ G,G=grownCap w (n+1) n 176:=⟨_,rfl⟩
 obtain ⟨ROW,hROW⟩:∃ ROW:Array Value,ROW=(cs.take (i*2)).toArray++Builtin.zeroCells zc.cells (n+1 - i)++Builtin.zeroCells zc.cells (G - (n+1)):=⟨_,rfl⟩
 rw [← hG] at hrz ⊢
 rw [← hROW] at hrz ⊢
 have hRl:(n+1)*2≤ROW.size:=by
  rw [hROW]
  simp [Builtin.zeroCells,Value.cells,hcl]
  omega
 obtain ⟨W1,hW1⟩:∃ W1,W1=w.drew.alloc (.cells ROW 176):=⟨_,rfl⟩
 rw [← hW1] at hrz
 have hN:∀ j,j<(n+1)*2→(W1.cell? ⟨w.heap.size,j,none⟩).isSome=true:=fun j hj=>by
  rw [hW1,World.cell?_alloc_at (w:=w.drew) ROW _ w.heap.size j rfl,Array.getElem?_eq_getElem (by omega)]; rfl
 have hNf:∀ j,W1.frozen? ⟨w.heap.size,j,none⟩=false:=fun j=>by rw [hW1]; exact World.frozen?_alloc_at (w:=w.drew) ROW _ w.heap.size j rfl
 have hOb:∀ j v,w.cell? ⟨b,j,none⟩=some v→W1.cell? ⟨b,j,none⟩=some v:=fun j v h=>by rw [hW1,World.cell?_alloc_past (w:=w.drew) _ b j hbw]; exact h
 have hOv:∀ j v,w.cell? ⟨vb,j,none⟩=some v→W1.cell? ⟨vb,j,none⟩=some v:=fun j v h=>by rw [hW1,World.cell?_alloc_past (w:=w.drew) _ vb j hvw]; exact h
 have hcpA:∀ (W:World),(∀ x,W.cell? x=W1.cell? x)→(∀ x,W.frozen? x=W1.frozen? x)→∀ ty dc,(Builtin.copy_ #[41,41] ty #[.slice (some ⟨w.heap.size,i*2,none⟩) (n+1 - i) dc,.slice (some ⟨vb,voff,none⟩) 1 vc]).run Tryz.prog W=.ok (goInt 1) (W.setCells w.heap.size (i*2) vs):=fun W hWc hWf ty dc =>
  run_copy2 W _ _ ty 176 2 w.heap.size (i*2) 1 (n+1 - i) dc ⟨vb,voff,none⟩ 1 vc vs u41 hsz (by simp only [Nat.min_def]; split <;> omega) (by rw [hvl])
   (fun j v hj=>by rw [Addr.add_lit,hWc]; exact hOv _ v (hvs j v hj))
   (fun j hj=>by rw [hvl] at hj; rw [hWc]; exact hN _ (by omega)) (fun j hj=>by rw [hWf]; exact hNf _) h1v
 have hGn:n+1≤G:=by rw [hG]; exact grownCap_ge w _ _ _
 have hG63:G≤9223372036854775807:=by
  have:=grownCap_le_maxLen w (n+1) n 176 (by unfold maxLen; omega)
  rw [← hG] at this
  unfold maxLen at this
  omega
 have hbN:b≠w.heap.size:=by omega
 have hdl:(cs.drop (i*2)).length=(n - i)*2:=by rw [List.length_drop,hcl,Nat.sub_mul]
 have hcpB:∀ (W:World),(∀ x,W.cell? x=(W1.setCells w.heap.size (i*2) vs).cell? x)→(∀ x,W.frozen? x=(W1.setCells w.heap.size (i*2) vs).frozen? x)→∀ ty dc sc,(Builtin.copy_ #[41,41] ty #[.slice (some ⟨w.heap.size,k*2,none⟩) (n+1 - k) dc,.slice (some ⟨b,off+i*2,none⟩) (n - i) sc]).run Tryz.prog W=.ok (goInt ((n - i:Nat):Int)) (W.setCells w.heap.size (k*2) (cs.drop (i*2))):=fun W hWc hWf ty dc sc =>
  run_copy2 W _ _ ty 176 2 w.heap.size (k*2) (n - i) (n+1 - k) dc ⟨b,off+i*2,none⟩ (n - i) sc (cs.drop (i*2)) u41 hsz (by simp only [Nat.min_def]; split <;> omega) hdl
   (fun j v hj=>by
    rw [Addr.add_lit,hWc,World.cell?_setCells_out _ _ _ _ _ (fun h _=>absurd h hbN),Nat.add_assoc]
    exact hOb _ v (hcs (i*2+j) v (by rwa [List.getElem?_drop] at hj)))
   (fun j hj=>by rw [hdl] at hj; rw [hWc]; exact isSome_set _ _ _ _ (fun t ht=>by rw [hvl] at ht; exact hN _ (by omega)) _ (hN _ (by omega)))
   (fun j hj=>by rw [hWf,World.frozen?_setCells]; exact hNf _) (fun v hv=>h1c v (List.mem_of_mem_drop hv))
 subst hW1
 have hE1:∀ x,((w.alloc (.cells ROW 176)).drew).cell? x=(w.drew.alloc (.cells ROW 176)).cell? x:=fun x=>rfl
 have hE2:∀ x,((w.alloc (.cells ROW 176)).drew).frozen? x=(w.drew.alloc (.cells ROW 176)).frozen? x:=fun x=>rfl
 have hF1:∀ x,(((w.alloc (.cells ROW 176)).drew.setCells w.heap.size (i*2) vs).drew).cell? x=((w.drew.alloc (.cells ROW 176)).setCells w.heap.size (i*2) vs).cell? x:=fun x=>rfl
 have hF2:∀ x,(((w.alloc (.cells ROW 176)).drew.setCells w.heap.size (i*2) vs).drew).frozen? x=((w.drew.alloc (.cells ROW 176)).setCells w.heap.size (i*2) vs).frozen? x:=fun x=>rfl
 have hw1:IntKind.i64.wrap ((n:Int)+1)=((n+1:Nat):Int):=by rw [IntKind.wrap_i64]; omega
 have hw2:IntKind.i64.wrap ((i:Int)+1)=(k:Int):=by rw [IntKind.wrap_i64]; omega
 have hw3:IntKind.i64.wrap ((n:Int)+1 - (i:Int))=((n+1 - i:Nat):Int):=by rw [IntKind.wrap_i64]; omega
 have hw4:(n:Int)+1 - (i:Int)=((n+1 - i:Nat):Int):=by omega
 have hgt:(n:Int)+1 > (n:Int):=by omega
 have hci:¬ (n=i):=by omega
 have hGi:¬ (G=i):=by omega
 have hGk:¬ (G=k):=by omega
 have hin:i≤n:=by omega
 have hinZ:(i:Int)≤(n:Int):=by omega
 have hknZ:(k:Int)≤(n:Int)+1:=by omega
 have hinZ1:(i:Int)≤(n:Int)+1:=by omega
 clear hold hROW hG hRl hik hk
 go_enter Tryz.func336,Tryz.ntmps336
 go_wp2_with (first
  | (at_builtin; refine Lib.wpList_append_run _ rfl _ _ _ _ rfl _ _ rfl rfl _ _ (hrz _) ?_)
  | (at_builtin; refine wpList_copy_runI _ rfl _ _ 41 41 rfl _ _ rfl rfl (hcpA _ hE1 hE2 _ _) ?_))
 go_region_law_o (refine step_copy_runI rfl _ _ 41 41 rfl (.slice (some ⟨w.heap.size,k*2,none⟩) (n+1 - k) (G - k)) (.slice (some ⟨b,off+i*2,none⟩) (n - i) (n - i)) (by simp [Act.eval,Act.put]) (by simp [Act.eval,Act.put]) (hcpB _ hF1 hF2 3 (G - k) (n - i)) ?_)
 go_wp2
 go_ret
 exact ⟨rfl,rfl⟩
end Go.Proofs.YtchceahcaaibcaaGreat.H
namespace Go.Proofs.YtchceahcaaibcaaGreat
set_option maxRecDepth 100000
set_option maxHeartbeats 4000000
open Go.RowKit Go.Lib
theorem setCells_heap (b:Nat) (e:TypeId) (fz:Nat × Nat):∀ (vs:List Value) (o:Nat) (w:World) (arr:Array Value),w.heap[b]?=some (.cells arr e fz)→o+vs.length≤arr.size →
  ∃ arr':Array Value,(w.setCells b o vs).heap[b]?=some (.cells arr' e fz)∧arr'.size=arr.size∧(∀ k,k<o∨o+vs.length≤k→arr'[k]?=arr[k]?)∧(∀ j v,vs[j]?=some v→arr'[o+j]?=some v)
 | [],o,w,arr,h,_=>⟨arr,h,rfl,fun _ _=>rfl,fun j v hj=>by simp at hj⟩
 | v::r,o,w,arr,h,hl=>by
  have hl':o+(r.length+1)≤arr.size:=hl
  have h1:(w.setCell ⟨b,o,none⟩ v).heap[b]?=some (.cells (arr.setIfInBounds o v) e fz):=by
   simp [World.setCell,Array.getElem?_modify,h]
  obtain ⟨arr',k1,k2,k3,k4⟩:=setCells_heap b e fz r (o+1) _ _ h1 (by simp; omega)
  refine ⟨arr',k1,by rw [k2]; simp,fun k hk=>?_,fun j u hj=>?_⟩
  ·have hk:k<o∨o+(r.length+1)≤k:=hk
   rw [k3 k (by omega),Array.getElem?_setIfInBounds,if_neg (by omega)]
  ·cases j with
   | zero =>
    simp only [List.getElem?_cons_zero,Option.some.injEq] at hj
    subst hj
    rw [Nat.add_zero,k3 o (.inl (by omega)),Array.getElem?_setIfInBounds,if_pos rfl,if_pos (by omega)]
   | succ j =>
    have:=k4 j u (by simpa using hj)
    rwa [show o+(j+1)=o+1+j from by omega]
theorem setCells_else (b:Nat):∀ (vs:List Value) (o:Nat) (w:World),(w.setCells b o vs).os=w.os∧(w.setCells b o vs).tape=w.tape∧(w.setCells b o vs).output=w.output∧(w.setCells b o vs).heap.size=w.heap.size∧∀ k,k≠b→(w.setCells b o vs).heap[k]?=w.heap[k]?
 | [],o,w=>⟨rfl,rfl,rfl,rfl,fun _ _=>rfl⟩
 | v::r,o,w=>by
  obtain ⟨h1,h2,h3,h4,h5⟩:=setCells_else b r (o+1) (w.setCell ⟨b,o,none⟩ v)
  refine ⟨h1,h2,h3,h4.trans (by simp [World.setCell]),fun k hk=>(h5 k hk).trans ?_⟩
  simp only [World.setCell,Array.getElem?_modify]
  rw [if_neg (by simpa using Ne.symm hk)]
abbrev cellRow:List S:= [.int .i64,.int .i64]
theorem row_cell:rowOf Tryz.prog 176=some cellRow:=by kernel_rfl
def cellsV (rows:List (List D)):List Value:=rows.flatMap fun r => [.int .i64 (gd r 0).int,.int .i64 (gd r 1).int]
theorem cellsV_len:∀ rows,(cellsV rows).length=rows.length*2
 | []=>rfl
 | r::rs=>by
  have:=cellsV_len rs
  simp only [cellsV,List.flatMap_cons,List.length_append,List.length_cons,List.length_nil] at *
  omega
theorem cellsV_cons (r:List D) (rs:List (List D)):cellsV (r::rs)=.int .i64 (gd r 0).int::.int .i64 (gd r 1).int::cellsV rs:=rfl
theorem cellsV_get:∀ (rows:List (List D)) (i:Nat),i<rows.length→(cellsV rows)[i*2]?=some (.int .i64 (gd (rows.getD i []) 0).int)∧(cellsV rows)[i*2+1]?=some (.int .i64 (gd (rows.getD i []) 1).int)
 | [],i,h=>by simp at h
 | r::rs,0,_=>⟨rfl,rfl⟩
 | r::rs,i+1,h=>by
  have:=cellsV_get rs i (by simpa using h)
  rw [cellsV_cons,show (i+1)*2=i*2+1+1 from by omega]
  exact this
theorem cellsV_all {F:Nat→Value→Prop} {rows:List (List D)} (h:∀ i,i<rows.length→F (i*2) (.int .i64 (gd (rows.getD i []) 0).int)∧F (i*2+1) (.int .i64 (gd (rows.getD i []) 1).int)) {k:Nat} {v:Value} (hk:(cellsV rows)[k]?=some v):F k v:=by
 have hlt:=(List.getElem?_eq_some_iff.1 hk).1
 rw [cellsV_len] at hlt
 have hi:k / 2<rows.length:=by omega
 obtain ⟨h1,h2⟩:=cellsV_get rows (k / 2) hi
 obtain ⟨q1,q2⟩:=h (k / 2) hi
 rcases Nat.mod_two_eq_zero_or_one k with hm | hm
 ·have e:k / 2*2=k:=by omega
  rw [e] at h1 q1
  rw [hk] at h1; injection h1 with h1; rw [h1]; exact q1
 ·have e:k / 2*2+1=k:=by omega
  rw [e] at h2 q2
  rw [hk] at h2; injection h2 with h2; rw [h2]; exact q2
theorem cellsV_one (rows:List (List D)):∀ v∈cellsV rows,v.oneCell'=true:=fun v hv=>by
 obtain ⟨k,hk⟩:=List.getElem?_of_mem hv
 exact cellsV_all (F:=fun _ v=>v.oneCell'=true) (fun i _=>⟨rfl,rfl⟩) hk
theorem ownK_cell {w:World} {rows:List (List D)} {b cap:Nat} {arr:Array Value} (hh:w.heap[b]?=some (.cells arr 176 (0,0))) (hs:arr.size=cap*2) (hle:rows.length≤cap) (h63:cap≤9223372036854775807)
  (hc:∀ i,i<rows.length→arr[i*2]?=some (.int .i64 (gd (rows.getD i []) 0).int)∧arr[i*2+1]?=some (.int .i64 (gd (rows.getD i []) 1).int)):OwnK w 176 cellRow rows (.slice (some ⟨b,0,none⟩) rows.length cap) (some b):=by
 refine .inr ⟨b,cap,arr,rfl,rfl,hle,h63,hh,hs,fun i j s hi hs=>?_⟩
 obtain ⟨h1,h2⟩:=hc i hi
 match j,hs with
 | 0,hs=>injection hs with hs; subst hs; exact ⟨_,h1,rfl⟩
 | 1,hs=>injection hs with hs; subst hs; exact ⟨_,h2,rfl⟩
theorem ownK_at {w:World} {rows:List (List D)} {u:Value} {B:Option Nat} (h:OwnK w 176 cellRow rows u B):(B=none∧rows = []∧∃ A,u=.slice A 0 0) ∨
  ∃ (b cap:Nat) (arr:Array Value),B=some b∧u=.slice (some ⟨b,0,none⟩) rows.length cap∧rows.length≤cap∧cap≤9223372036854775807∧w.heap[b]?=some (.cells arr 176 (0,0))∧arr.size=cap*2 ∧
   ∀ i,i<rows.length→arr[i*2]?=some (.int .i64 (gd (rows.getD i []) 0).int)∧arr[i*2+1]?=some (.int .i64 (gd (rows.getD i []) 1).int):=by
 rcases h with h | ⟨b,cap,arr,h1,h2,h3,h4,h5,h6,h7⟩
 ·exact .inl h
 ·refine .inr ⟨b,cap,arr,h1,h2,h3,h4,h5,h6,fun i hi=>?_⟩
  obtain ⟨u0,k1,k2⟩:=h7 i 0 (.int .i64) hi rfl
  obtain ⟨u1,k3,k4⟩:=h7 i 1 (.int .i64) hi rfl
  rw [k2] at k1
  rw [k4] at k3
  exact ⟨k1,k3⟩
theorem vd_cells {w:World} {prot:Nat→Nat} {x:D} {v:Value} (h:VD Tryz.prog w prot (.sl 176) x v):∃ A c,v=.slice A x.rows.length c∧x.rows.length≤c∧c≤9223372036854775807 ∧
  (0<x.rows.length→∃ b o,A=some ⟨b,o,none⟩)∧∀ b o,A=some ⟨b,o,none⟩→∀ k v,(cellsV x.rows)[k]?=some v→w.cell? ⟨b,o+k,none⟩=some v∧o+k<prot b:=by
 cases h with
 | sl e d A c row u hr h1 h2 h3 h4 =>
  rw [row_cell] at hr
  injection hr with hr
  subst hr
  refine ⟨A,c,rfl,h1,h2,fun h0=>?_,fun b o hA k v hk=>?_⟩
  ·obtain ⟨b,o,hA,_⟩:=h3 0 0 h0 (by decide)
   exact ⟨b,o,hA⟩
  ·subst hA
   have hb:∀ i j,i<x.rows.length→j<2→∃ v,w.cell? ⟨b,o+(i*2+j),none⟩=some v∧o+(i*2+j)<prot b∧v=.int .i64 (gd (x.rows.getD i []) j).int:=fun i j hi hj=>by
    obtain ⟨b',o',hA,hc,hp⟩:=h3 i j hi hj
    injection hA with hA
    injection hA with e1 e2 _
    subst e1; subst e2
    have hv:=h4 i j (.int .i64) hi (by match j,hj with | 0,_=>rfl | 1,_=>rfl)
    generalize u i j=z at *
    cases hv
    exact ⟨_,hc,hp,rfl⟩
   refine cellsV_all (F:=fun k v=>w.cell? ⟨b,o+k,none⟩=some v∧o+k<prot b) (fun i hi=>?_) hk
   obtain ⟨v0,q1,q2,rfl⟩:=hb i 0 hi (by decide)
   obtain ⟨v1,q3,q4,rfl⟩:=hb i 1 hi (by decide)
   exact ⟨⟨by simpa using q1,by simpa using q2⟩,q3,q4⟩
theorem clone_cell (a:Addr) (n c:Nat) (news:List Value) (w:World) (hl:news.length=n*2) (hn:n≤1000000) (hc:∀ j u,news[j]?=some u→w.cell? (a.add j)=some u) (h1:∀ u∈news,u.oneCell'=true) :
  Calls Tryz.prog 335 #[.slice (some a) n c] w fun e w'=>∃ v',e=.returned v'∧w'.ownsRow w.heap.size 176 2 v' n news∧Below w.heap.size w w':=by
 obtain ⟨i0,hi0,hz0,hzs,hzb⟩:=info_parts H.info_cell
 have mixed:Tryz.prog.follows .mixedOrders=true:=by kernel_rfl
 have q22:∀ (w:World) (a:Option Addr) (n c n' c':Nat),(binOp .eql 41 (.slice a n c) (.slice none n' c')).run Tryz.prog w=.ok (.bool a.isNone) w:=fun w a n c n' c'=>Lib.run_eql_slice_nil w _ _ a n c n' c' Tryz.underlying41
 have A:Aside (∀ j u,news[j]?=some u→w.cell? (a.add j)=some u):=hc
 clear hc
 go_enter Tryz.func335,Tryz.ntmps335
 go_wp2_with (at_builtin; refine wpList_append_own _ rfl _ _ 41 rfl w.heap.size 176 i0 H.zc 2 16 Tryz.underlying41 hi0 hz0 hzs hzb rfl (by decide) _ _ _ rfl (World.ownsRow_made w #[] 0 (Nat.le_refl _) (Nat.zero_le _) (by simp)) a n c news rfl ?qc1 ?qc2 ?qc3 ?qc4 ?qc5 ?qc6 ?_)
 case qc1=>exact hl
 case qc2 =>
  intro j u hj
  exact Lib.cell?_alloc_some _ (A.out j u hj)
 case qc3=>exact h1
 case qc4=>rw [Nat.zero_add]; unfold maxLen; omega
 case qc5=>rw [Nat.zero_add]; omega
 case qc6=>simp
 intro v' w1 hown hgrow hnil
 go_wp2
 go_ret
 refine ⟨v',rfl,by simpa using hown,?_⟩
 exact ((Below.refl _ w).alloc (Nat.le_refl _) _).grown hgrow (by simp) (by intro k hk; simp [Value.ownBlock] at hk; omega)
theorem clone_nil (n c:Nat) (w:World) :
  Calls Tryz.prog 335 #[.slice none n c] w fun e w'=>e=.returned (.slice none 0 0)∧w'=w:=by
 have mixed:Tryz.prog.follows .mixedOrders=true:=by kernel_rfl
 have q22:∀ (w:World) (a:Option Addr) (n c n' c':Nat),(binOp .eql 41 (.slice a n c) (.slice none n' c')).run Tryz.prog w=.ok (.bool a.isNone) w:=fun w a n c n' c'=>Lib.run_eql_slice_nil w _ _ a n c n' c' Tryz.underlying41
 go_enter Tryz.func335,Tryz.ntmps335
 go_wp2
 go_ret
 exact ⟨rfl,rfl⟩
theorem res_cells {prot:Nat→Nat} {w w':World} {x:D} {v:Value} (hfr:∀ b,w.heap.size≤b→prot b=0) (hb:Below w.heap.size w w') (ho:w'.ownsRow w.heap.size 176 2 v x.rows.length (cellsV x.rows)) :
  ∃ g',Res Tryz.prog prot w w' ⟨.one (.c (.own (0,0) true 176)),[x]⟩ v g':=by
 obtain ⟨hl,⟨rfl,h0⟩ | ⟨blk,cap,cur,rfl,hblk,hh,hcap,hmax,hsz,htk⟩⟩:=ho
 ·exact ⟨g0 prot,hb,⟨cellRow,row_cell,.inl ⟨List.eq_nil_of_length_eq_zero h0,rfl,none,rfl⟩⟩,fun _ _=>rfl,fun b hb'=>⟨hfr b (Nat.le_trans hb.size hb'),rfl⟩⟩
 ·refine ⟨⟨prot,fun b=>if b=blk then some (.inr (0,0)) else none,fun _=>0,fun _=>blk,fun _=>x.rows.length,fun _=>2,fun _=>176,fun _ => [],fun _=>0⟩,hb,⟨cellRow,row_cell,.inr ⟨cap,cur,176,rfl,hcap,⟨by unfold maxLen at hmax; omega,rfl,rfl⟩,hblk,if_pos rfl,hh,hsz,rfl,rfl,?_,?_⟩⟩,fun _ _=>rfl,fun b hb'=>⟨hfr b (Nat.le_trans hb.size hb'),?_⟩⟩
  ·show prot blk=0
   exact hfr blk hblk
  ·intro i j s hi hs
   have hi:i<x.rows.length:=hi
   obtain ⟨q1,q2⟩:=cellsV_get x.rows i hi
   rw [← htk,List.getElem?_take,if_pos (by omega)] at q1 q2
   match j,hs with
   | 0,hs =>
    injection hs with hs
    subst hs
    exact ⟨.int .i64 (gd (x.rows.getD i []) 0).int,by simpa using q1,.of_vd (.int .i64 _) (.inr rfl)⟩
   | 1,hs =>
    injection hs with hs
    subst hs
    exact ⟨.int .i64 (gd (x.rows.getD i []) 1).int,by simpa using q2,.of_vd (.int .i64 _) (.inr rfl)⟩
  ·have:=lt_of_heap hh
   exact if_neg (by omega)
def i_clonCE:Ent:=(335,e1 (sd (.sl 176)) fun p=>(⟨.one (.c (.own (0,0) true 176)),[.l (gd p 0).rows]⟩,leI ((gd p 0).rows.length:Int) 1000000))
theorem i_clonC_ok:EntOk Tryz.prog i_clonCE:=e1_ok fun p h=>by
 have h:leI ((gd p 0).rows.length:Int) 1000000=true:=h
 simp only [leI,decide_eq_true_eq] at h
 refine SoundFn.of rfl ⟨enters Tryz.func335 (by kernel_rfl) (by kernel_rfl),fun w prot vs hargs hfr=>?_⟩
 obtain ⟨u,hu,hv⟩:=hargs.2 0 _ rfl
 have hvs:vs = #[u]:=by
  have hs:vs.size=1:=hargs.1
  refine Array.ext (by simpa using hs) fun i h1 h2=>?_
  have:i=0:=by omega
  subst this
  rw [Array.getElem?_eq_getElem h1] at hu
  injection hu
 subst hvs
 have hv:VD Tryz.prog w prot (.sl 176) (gd p 0) u:=hv
 generalize gd p 0=x at *
 obtain ⟨A,c,rfl,h1,h2,h3,h4⟩:=vd_cells hv
 cases A with
 | none =>
  have h0:x.rows.length=0:=by
   rcases Nat.eq_zero_or_pos x.rows.length with h' | h'
   ·exact h'
   ·obtain ⟨b,o,hA⟩:=h3 h'
    cases hA
  have hx0:x.rows = []:=List.eq_nil_of_length_eq_zero h0
  refine (clone_nil x.rows.length c w).mono ?_
  rintro ex w' ⟨rfl,rfl⟩
  obtain ⟨g',hg⟩:=res_cells (x:=x) (prot:=prot) (w:=w') (w':=w') hfr (Below.refl _ _) (v:=.slice none 0 0) ⟨cellsV_len _,.inl ⟨rfl,h0⟩⟩
  exact ⟨_,g',rfl,hg.below,hg.val,hg.prot,hg.fresh⟩
 | some ad =>
  refine (clone_cell ad x.rows.length c (cellsV x.rows) w (cellsV_len _) (by omega) (fun j u hj=>?_) (cellsV_one _)).mono ?_
  ·have hpos:0<x.rows.length:=by
    have:=(List.getElem?_eq_some_iff.1 hj).1
    rw [cellsV_len] at this
    omega
   obtain ⟨b,o,hA⟩:=h3 hpos
   injection hA with hA
   subst hA
   rw [Addr.add_lit]
   exact (h4 b o rfl j u hj).1
  ·rintro ex w' ⟨v',rfl,hown,hbel⟩
   obtain ⟨g',hg⟩:=res_cells (x:=x) (prot:=prot) hfr hbel hown
   exact ⟨_,g',rfl,hg.below,hg.val,hg.prot,hg.fresh⟩
theorem cellsV_app (a b:List (List D)):cellsV (a++b)=cellsV a++cellsV b:=by simp [cellsV]
theorem cellsV_take:∀ (rows:List (List D)) (i:Nat),cellsV (rows.take i)=(cellsV rows).take (i*2)
 | [],i=>by simp [cellsV]
 | r::rs,0=>by simp [cellsV]
 | r::rs,i+1=>by
  rw [List.take_succ_cons,cellsV_cons,cellsV_cons,cellsV_take rs i,show (i+1)*2=i*2+1+1 from by omega,List.take_succ_cons,List.take_succ_cons]
theorem cellsV_drop:∀ (rows:List (List D)) (i:Nat),cellsV (rows.drop i)=(cellsV rows).drop (i*2)
 | [],i=>by simp [cellsV]
 | r::rs,0=>by simp [cellsV]
 | r::rs,i+1=>by
  rw [List.drop_succ_cons,cellsV_cons,cellsV_drop rs i,show (i+1)*2=i*2+1+1 from by omega,List.drop_succ_cons,List.drop_succ_cons]
theorem ownK_mk {w:World} {rows:List (List D)} {b cap n:Nat} {arr:Array Value} (hh:w.heap[b]?=some (.cells arr 176 (0,0))) (hn:n=rows.length) (hs:arr.size=cap*2) (hle:rows.length≤cap) (h63:cap≤9223372036854775807)
  (hc:∀ (k:Nat) v,(cellsV rows)[k]?=some v→arr[k]?=some v):OwnK w 176 cellRow rows (.slice (some ⟨b,0,none⟩) n cap) (some b):=by
 subst hn
 exact ownK_cell hh hs hle h63 fun i hi=>⟨hc _ _ (cellsV_get rows i hi).1,hc _ _ (cellsV_get rows i hi).2⟩
theorem ownK_get {w:World} {rows:List (List D)} {u:Value} {B:Option Nat} (h:OwnK w 176 cellRow rows u B):(B=none∧rows = []∧∃ A,u=.slice A 0 0) ∨
  ∃ (b cap:Nat) (arr:Array Value),B=some b∧u=.slice (some ⟨b,0,none⟩) rows.length cap∧rows.length≤cap∧cap≤9223372036854775807∧w.heap[b]?=some (.cells arr 176 (0,0))∧arr.size=cap*2 ∧
   ∀ (k:Nat) v,(cellsV rows)[k]?=some v→arr[k]?=some v:=by
 rcases ownK_at h with h | ⟨b,cap,arr,h1,h2,h3,h4,h5,h6,h7⟩
 ·exact .inl h
 ·exact .inr ⟨b,cap,arr,h1,h2,h3,h4,h5,h6,fun k v hk=>cellsV_all (F:=fun k v=>arr[k]?=some v) h7 hk⟩
theorem vd_int {P:Program} {w:World} {prot:Nat→Nat} {k:IntKind} {x:D} {v:Value} (h:VD P w prot (.int k) x v):v=.int k x.int:=by
 cases h; rfl
theorem args_at {P:Program} {prot:Nat→Nat} {w:World} {args:List T} {vs:Array Value} (h:ArgsV P prot w args vs) (us:List Value) (hl:us.length=args.length) (hu:∀ (j:Nat) t u,args[j]?=some t→vs[j]?=some u→us[j]?=some u):vs=us.toArray:=by
 refine Array.ext (by simp [h.1,hl]) fun i h1 h2=>?_
 have hi:i<args.length:=by rw [← h.1]; exact h1
 have:=hu i _ _ (List.getElem?_eq_getElem hi) (Array.getElem?_eq_getElem h1)
 rw [List.getElem?_eq_getElem (by omega)] at this
 simp only [Option.some.injEq] at this
 simpa using this.symm
theorem args_ii {P:Program} {prot:Nat→Nat} {w:World} {q r:List D} {vs:Array Value} (h:ArgsV P prot w [⟨ri,q⟩,⟨ri,r⟩] vs):vs = #[.int .i64 (gd q 0).int,.int .i64 (gd r 0).int]:=by
 refine args_at h [.int .i64 (gd q 0).int,.int .i64 (gd r 0).int] rfl fun j t u h1 h2=>?_
 obtain ⟨u',k1,k2⟩:=h.2 j t h1
 rw [h2] at k1; injection k1 with k1; subst k1
 match j,h1 with
 | 0,h1 =>
  injection h1 with h1; subst h1
  have:=vd_int (k:=.i64) (show VD P w prot (.int .i64) (gd q 0) u from k2)
  rw [this]; rfl
 | 1,h1 =>
  injection h1 with h1; subst h1
  have:=vd_int (k:=.i64) (show VD P w prot (.int .i64) (gd r 0) u from k2)
  rw [this]; rfl
theorem cell_at {w:World} {b:Nat} {arr:Array Value} {e:TypeId} {fz:Nat × Nat} (h:w.heap[b]?=some (.cells arr e fz)) (k:Nat):w.cell? ⟨b,k,none⟩=arr[k]?:=by
 simp [World.cell?,h]
theorem unfrozen {w:World} {b:Nat} {arr:Array Value} {e:TypeId} (h:w.heap[b]?=some (.cells arr e (0,0))) (k:Nat):w.frozen? ⟨b,k,none⟩=false:=by
 simp [World.frozen?,h]
def delRows (rows:List (List D)) (i:Nat):List (List D):=rows.take i++rows.drop (i+1)
def i_delCE:Ent:=(334,e3 (sd (.sl 176)) ri ri fun p q r=>(⟨.tup [.agg [.any]],[.l (delRows (gd p 0).rows (gd q 0).int.toNat)]⟩,leI ((gd p 0).rows.length:Int) 1000000&&inRange (gd q 0).int (gd p 0).rows.length&&((gd r 0).int==(gd q 0).int+1)))
theorem i_delC_ok:EntOk Tryz.prog i_delCE:=e3_ok fun p q r h=>by
 have h:(leI ((gd p 0).rows.length:Int) 1000000&&inRange (gd q 0).int (gd p 0).rows.length&&((gd r 0).int==(gd q 0).int+1))=true:=h
 simp only [Bool.and_eq_true,leI,decide_eq_true_eq,beq_iff_eq] at h
 obtain ⟨⟨h1,h2⟩,h3⟩:=h
 obtain ⟨hq0,hq1⟩:0≤(gd q 0).int∧(gd q 0).int<((gd p 0).rows.length:Int):=by simpa [inRange] using h2
 refine SoundFn.ofK rfl ⟨enters Tryz.func334 (by kernel_rfl) (by kernel_rfl),fun e x rest row he hrow hflat w prot u B vs hO hB hfr hargs hko=>?_⟩
 injection he with he hre
 injection he with he hp
 injection he with he
 injection he with he
 injection he with he
 injection he with he
 subst he hp hre
 rw [row_cell] at hrow
 injection hrow with hrow
 subst hrow
 have hvs:=args_ii (hargs w (Changed.refl w B))
 subst hvs
 have h1:(x.rows.length:Int)≤1000000:=h1
 have hq1:(gd q 0).int<(x.rows.length:Int):=hq1
 obtain ⟨i,hi⟩:∃ i:Nat,(gd q 0).int=i:=⟨(gd q 0).int.toNat,by omega⟩
 obtain ⟨n,hn⟩:∃ n,n=x.rows.length:=⟨_,rfl⟩
 have hin:i<n:=by omega
 have hout:(gd [D.l (delRows x.rows (gd q 0).int.toNat)] 0).rows=delRows x.rows i:=by rw [hi]; rfl
 show Calls _ _ _ w fun ex w'=>∃ v' B',ex=.returned v'∧Changed w w' B∧OwnK w' _ _ (gd [D.l (delRows x.rows (gd q 0).int.toNat)] 0).rows v' B'∧_
 rw [hout]
 rcases ownK_get hO with ⟨_,h0,_⟩ | ⟨b,cap,arr,rfl,rfl,hle,h63,hh,hs,hc⟩
 ·rw [h0] at hn; simp at hn; omega
 ·rw [← hn] at hle ⊢
  have hcl:(cellsV x.rows).length=n*2:=by rw [cellsV_len,hn]
  have:=H.del_cell b 0 n cap i (i+1) (cellsV x.rows) w rfl hin hle h63 hcl (fun j v hj=>by rw [Nat.zero_add,cell_at hh]; exact hc j v hj) (fun j _=>unfrozen hh _) (cellsV_one _)
  rw [show (#[Value.slice (some ⟨b,0,none⟩) n cap] ++ #[.int .i64 (gd q 0).int,.int .i64 (gd r 0).int]:Array Value) = #[.slice (some ⟨b,0,none⟩) n cap,.int .i64 i,.int .i64 ((i+1:Nat):Int)] from by rw [hi,h3,hi]; rfl]
  refine this.mono ?_
  rintro ex w' ⟨rfl,rfl⟩
  have hdl:((cellsV x.rows).drop ((i+1)*2)).length=(n - (i+1))*2:=by rw [List.length_drop,hcl]; omega
  obtain ⟨arr1,a1,a2,a3,a4⟩:=setCells_heap b 176 (0,0) ((cellsV x.rows).drop ((i+1)*2)) (0+i*2) w.drew arr hh (by rw [hdl,hs]; omega)
  have hz:H.zc.cells.toList.length=2:=rfl
  obtain ⟨arr2,b1,b2,b3,b4⟩:=setCells_heap b 176 (0,0) H.zc.cells.toList (0+(n - 1)*2) _ arr1 a1 (by rw [hz,a2,hs]; omega)
  obtain ⟨c1,c2,c3,c4,c5⟩:=setCells_else b ((cellsV x.rows).drop ((i+1)*2)) (0+i*2) w.drew
  obtain ⟨d1,d2,d3,d4,d5⟩:=setCells_else b H.zc.cells.toList (0+(n - 1)*2) (w.drew.setCells b (0+i*2) ((cellsV x.rows).drop ((i+1)*2)))
  have hdr:(delRows x.rows i).length=n - 1:=by simp [delRows]; omega
  refine ⟨_,some b,rfl,⟨d1.trans c1,d2.trans c2,d3.trans c3,Nat.le_of_eq (d4.trans c4).symm,fun k _ hk=>(d5 k (fun e=>hk (by rw [e]))).trans (c5 k (fun e=>hk (by rw [e])))⟩,?_,fun b hb=>.inl hb⟩
  refine ownK_mk b1 hdr.symm (by rw [b2,a2,hs]) (by omega) h63 fun k v hk=>?_
  have hkl:=(List.getElem?_eq_some_iff.1 hk).1
  rw [cellsV_len,hdr] at hkl
  rw [b3 k (.inl (by omega))]
  unfold delRows at hk
  rw [cellsV_app,cellsV_take,cellsV_drop,List.getElem?_append] at hk
  have htl:((cellsV x.rows).take (i*2)).length=i*2:=by rw [List.length_take,hcl]; omega
  rw [htl] at hk
  split at hk
  ·rename_i hlt
   rw [a3 k (.inl (by omega))]
   rw [List.getElem?_take,if_pos hlt] at hk
   exact hc k v hk
  ·have:=a4 (k - i*2) v hk
   rwa [show 0+i*2+(k - i*2)=k from by omega] at this
theorem args_is {prot:Nat→Nat} {w:World} {q r:List D} {vs:Array Value} (h:ArgsV Tryz.prog prot w [⟨ri,q⟩,⟨sd (.sl 176),r⟩] vs):∃ u,vs = #[.int .i64 (gd q 0).int,u]∧VD Tryz.prog w prot (.sl 176) (gd r 0) u:=by
 obtain ⟨u,hu,hv⟩:=h.2 1 _ rfl
 refine ⟨u,?_,hv⟩
 refine args_at h [.int .i64 (gd q 0).int,u] rfl fun j t u' h1 h2=>?_
 match j,h1 with
 | 0,h1 =>
  injection h1 with h1; subst h1
  obtain ⟨u'',k1,k2⟩:=h.2 0 _ rfl
  rw [h2] at k1; injection k1 with k1; subst k1
  have:=vd_int (k:=.i64) (show VD Tryz.prog w prot (.int .i64) (gd q 0) u' from k2)
  rw [this]; rfl
 | 1,h1 =>
  rw [h2] at hu; injection hu with hu; subst hu
  rfl
theorem app_one {w:World} {rows:List (List D)} {r:List D} {base:Option Addr} {n c:Nat} {B:Option Nat} (hO:OwnK w 176 cellRow rows (.slice base n c) B) (vb voff vc:Nat) (hn:rows.length≤1000000)
  (hv:∀ (k:Nat) v,(cellsV [r])[k]?=some v→w.cell? ⟨vb,voff+k,none⟩=some v) :
  ∃ v' w1 B',(∀ ty,(Builtin.append_ #[41,41] ty #[.slice base n c,.slice (some ⟨vb,voff,none⟩) 1 vc]).run Tryz.prog w=.ok v' w1)∧Changed w w1 B∧OwnK w1 176 cellRow (rows ++ [r]) v' B'∧∀ b,B'=some b→B=some b∨w.heap.size≤b:=by
 obtain ⟨i0,hi0,hz0,hzs,hzb⟩:=info_parts H.info_cell
 have hl1:(cellsV [r]).length=1*i0.size:=by rw [hzs]; rfl
 have hnews:∀ (j:Nat) v,(cellsV [r])[j]?=some v→w.cell? ((⟨vb,voff,none⟩:Addr).add j)=some v:=fun j v hj=>by rw [Addr.add_lit]; exact hv j v hj
 have hzz:H.zc.cells.size=2:=rfl
 -- a new block
 have hnew:∀ (old:Nat),(w.drew.alloc (.cells ((cellsV rows).toArray++(cellsV [r]).toArray++Builtin.zeroCells H.zc.cells (grownCap w (rows.length+1) old 176 - (rows.length+1))) 176)).heap.size=w.heap.size+1 ∧
   Changed w (w.drew.alloc (.cells ((cellsV rows).toArray++(cellsV [r]).toArray++Builtin.zeroCells H.zc.cells (grownCap w (rows.length+1) old 176 - (rows.length+1))) 176)) B ∧
   OwnK (w.drew.alloc (.cells ((cellsV rows).toArray++(cellsV [r]).toArray++Builtin.zeroCells H.zc.cells (grownCap w (rows.length+1) old 176 - (rows.length+1))) 176)) 176 cellRow (rows ++ [r]) (.slice (some ⟨w.heap.size,0,none⟩) (rows.length+1) (grownCap w (rows.length+1) old 176)) (some w.heap.size):=by
  intro old
  have hge:=grownCap_ge w (rows.length+1) old 176
  have hcm:=grownCap_le_maxLen w (rows.length+1) old 176 (by unfold maxLen; omega)
  refine ⟨by simp [World.alloc],⟨rfl,rfl,rfl,by simp [World.alloc],fun k hk _=>Below.heap_alloc w.drew _ k hk⟩,ownK_mk (by letI:Low:=⟨fun _=>0⟩; exact heap_new w.drew _) (by simp) ?_ (by simpa using hge) (by unfold maxLen at hcm; omega) fun k v hk=>?_⟩
  ·simp only [Array.size_append,List.size_toArray,cellsV_len,size_zeroCells,hzz,List.length_cons,List.length_nil]
   omega
  ·rw [cellsV_app] at hk
   have hkl:=(List.getElem?_eq_some_iff.1 hk).1
   rw [Array.getElem?_append_left (by simpa using hkl)]
   simpa using hk
 have hnot:B=none→rows = []∧n=0∧c=0:=by
  rintro rfl
  rcases hO with ⟨_,h0,A,hA⟩ | ⟨_,_,_,hb,_⟩
  ·injection hA with _ e1 e2; exact ⟨h0,e1,e2⟩
  ·cases hb
 rcases ownK_get hO with ⟨rfl,rfl,A,hA⟩ | ⟨b,cap,arr,rfl,hA,hle,h63,hh,hs,hc⟩
 ·injection hA with e0 e1 e2
  subst e0 e1 e2
  obtain ⟨_,q2,q3⟩:=hnew 0
  refine ⟨_,_,some w.heap.size,fun ty=>?_,q2,q3,fun b hb=>.inr (by injection hb with hb; omega)⟩
  cases base with
  | none =>
   have:=run_append_nil (P:=Tryz.prog) w 41 ty 176 i0 H.zc Tryz.underlying41 hi0 hz0 ⟨vb,voff,none⟩ 1 vc (cellsV [r]) hl1 hnews (by omega) (by omega) (by rw [hzb]; omega)
   rw [this]
   simp [cellsV]
  | some a =>
   have:=run_append_grow (P:=Tryz.prog) w 41 ty 176 i0 H.zc Tryz.underlying41 hi0 hz0 a 0 0 [] (by simp) (fun j v hj=>by simp at hj) ⟨vb,voff,none⟩ 1 vc (cellsV [r]) hl1 hnews (by omega) (by omega) (by rw [hzb]; exact growslice_fits (by omega) (by omega))
   rw [this]
   rfl
 ·injection hA with e0 e1 e2
  subst e0 e1 e2
  by_cases hroom:rows.length+1≤c
  ·have hfit:rows.length*i0.size+(cellsV [r]).length≤arr.size:=by rw [hzs,hs]; show _+2≤_; omega
   have hlv:(cellsV [r]).length=2:=rfl
   have hrl:(cellsV rows).length=rows.length*2:=cellsV_len rows
   refine ⟨_,_,some b,fun ty=>run_append_room (P:=Tryz.prog) w 41 ty 176 i0 Tryz.underlying41 hi0 b rows.length c arr hh ⟨vb,voff,none⟩ 1 vc (cellsV [r]) hl1 hnews (cellsV_one _) hroom hfit,⟨rfl,rfl,rfl,by simp,fun k _ hk=>setRow_other w b k _ (fun e=>hk (by rw [e]))⟩,?_,fun b hb=>.inl hb⟩
   refine ownK_mk (setRow_heap w b arr _ _ _ hh) (by simp) ?_ (by simpa using hroom) h63 fun k v hk=>?_
   ·simp only [List.size_toArray,List.length_append,List.length_take,List.length_drop,Array.length_toList,hlv,hzs]
    omega
   ·rw [cellsV_app,List.getElem?_append] at hk
    rw [List.getElem?_toArray,List.append_assoc,List.getElem?_append,hzs]
    have htl:(arr.toList.take (rows.length*2)).length=rows.length*2:=by
     have e0:arr.toList.length=arr.size:=Array.length_toList
     rw [List.length_take,e0,hs]
     omega
    rw [htl]
    rw [hrl] at hk
    split at hk
    ·rename_i hlt
     rw [if_pos hlt,List.getElem?_take,if_pos hlt,Array.getElem?_toList]
     exact hc k v (by exact hk)
    ·rename_i hge
     rw [if_neg hge,List.getElem?_append_left (List.getElem?_eq_some_iff.1 hk).1]
     exact hk
  ·obtain ⟨_,q2,q3⟩:=hnew c
   refine ⟨_,_,some w.heap.size,fun ty=>?_,q2,q3,fun b hb=>.inr (by injection hb with hb; omega)⟩
   exact run_append_grow (P:=Tryz.prog) w 41 ty 176 i0 H.zc Tryz.underlying41 hi0 hz0 ⟨b,0,none⟩ rows.length c (cellsV rows) (by rw [cellsV_len,hzs]) (fun j v hj=>by rw [Addr.add_lit,Nat.zero_add,cell_at hh]; exact hc j v hj) ⟨vb,voff,none⟩ 1 vc (cellsV [r]) hl1 hnews (by omega) (by omega) (by rw [hzb]; exact growslice_fits (by omega) (by omega))
def insRows (rows:List (List D)) (i:Nat) (r:List D):List (List D):=rows.take i++r::rows.drop i
theorem cellsV_ins (rows:List (List D)) (i:Nat) (r:List D) (hi:i≤rows.length) {k:Nat} {v:Value} (hk:(cellsV (insRows rows i r))[k]?=some v) :
  (k<i*2∧(cellsV rows)[k]?=some v)∨(i*2≤k∧k<(i+1)*2∧(cellsV [r])[k - i*2]?=some v)∨((i+1)*2≤k∧((cellsV rows).drop (i*2))[k - (i+1)*2]?=some v):=by
 have htl:((cellsV rows).take (i*2)).length=i*2:=by rw [List.length_take,cellsV_len]; omega
 unfold insRows at hk
 rw [cellsV_app,cellsV_take,show r::rows.drop i = [r]++rows.drop i from rfl,cellsV_app,cellsV_drop,List.getElem?_append,htl] at hk
 split at hk
 ·rename_i hlt
  rw [List.getElem?_take,if_pos hlt] at hk
  exact .inl ⟨hlt,hk⟩
 ·rename_i hge
  rw [List.getElem?_append] at hk
  split at hk
  ·rename_i hlt
   have hlt:k - i*2<2:=hlt
   exact .inr (.inl ⟨by omega,by omega,hk⟩)
  ·rename_i hge2
   have hge2:¬ k - i*2<2:=hge2
   refine .inr (.inr ⟨by omega,?_⟩)
   rw [show k - (i+1)*2=k - i*2 - (cellsV [r]).length from by show _=_ - 2; omega]
   exact hk
def i_insCE:Ent:=(336,e3 (sd (.sl 176)) ri (sd (.sl 176)) fun p q r=>(⟨.tup [.agg [.kb true]],[.l (insRows (gd p 0).rows (gd q 0).int.toNat ((gd r 0).rows.getD 0 []))]⟩,leI ((gd p 0).rows.length:Int) 1000000&&leI 0 (gd q 0).int&&leI (gd q 0).int ((gd p 0).rows.length:Int)&&((gd r 0).rows.length==1)))
theorem i_insC_ok:EntOk Tryz.prog i_insCE:=e3_ok fun p q r h=>by
 have h:(leI ((gd p 0).rows.length:Int) 1000000&&leI 0 (gd q 0).int&&leI (gd q 0).int ((gd p 0).rows.length:Int)&&((gd r 0).rows.length==1))=true:=h
 simp only [Bool.and_eq_true,leI,decide_eq_true_eq,beq_iff_eq] at h
 obtain ⟨⟨⟨h1,hq0⟩,hq1⟩,h3⟩:=h
 refine SoundFn.ofK rfl ⟨enters Tryz.func336 (by kernel_rfl) (by kernel_rfl),fun e x rest row he hrow hflat w prot u B vs hO hB hfr hargs hko=>?_⟩
 injection he with he hre
 injection he with he hp
 injection he with he
 injection he with he
 injection he with he
 injection he with he
 subst he hp hre
 rw [row_cell] at hrow
 injection hrow with hrow
 subst hrow
 obtain ⟨uv,rfl,hv⟩:=args_is (hargs w (Changed.refl w B))
 have h1:(x.rows.length:Int)≤1000000:=h1
 have hq1:(gd q 0).int≤(x.rows.length:Int):=hq1
 obtain ⟨r0,hr0⟩:∃ r0,(gd r 0).rows = [r0]:=List.length_eq_one_iff.1 h3
 obtain ⟨VA,vc,rfl,_,hvc63,hvp,hvr⟩:=vd_cells hv
 rw [hr0] at hvp hvr
 obtain ⟨vb,vo,rfl⟩:=hvp (by simp)
 have hvr:=hvr vb vo rfl
 obtain ⟨i,hi⟩:∃ i:Nat,(gd q 0).int=i:=⟨(gd q 0).int.toNat,by omega⟩
 have hout:(gd [D.l (insRows x.rows (gd q 0).int.toNat ((gd r 0).rows.getD 0 []))] 0).rows=insRows x.rows i r0:=by rw [hi,hr0]; rfl
 have hko:=hko rfl 1 _ _ _ rfl (by rw [hr0]; simp)
 obtain ⟨vb',varr,vE,hvb,hvh⟩:=hko
 injection hvb with hvb
 injection hvb with e1 e2 _
 subst e1 e2
 show Calls _ _ _ w fun ex w'=>∃ v' B',ex=.returned v'∧Changed w w' B∧OwnK w' _ _ (gd [D.l (insRows x.rows (gd q 0).int.toNat ((gd r 0).rows.getD 0 []))] 0).rows v' B'∧_
 rw [hout,hr0,hi]
 have hvs:∀ (k:Nat) v,(cellsV [r0])[k]?=some v→w.cell? ⟨vb,0+k,none⟩=some v:=fun k v hk=>(hvr k v hk).1
 have hpv:0<prot vb:=Nat.lt_of_le_of_lt (Nat.zero_le _) (hvr 0 _ rfl).2
 show Calls _ _ #[u,.int .i64 (i:Int),.slice (some ⟨vb,0,none⟩) 1 vc] w _
 by_cases hend:i=x.rows.length
 ·have hins:insRows x.rows i r0=x.rows ++ [r0]:=by unfold insRows; rw [hend]; simp
  rw [hins]
  have hform:∃ base c,u=.slice base x.rows.length c∧x.rows.length≤c∧c≤9223372036854775807∧(base=none→c=0):=by
   rcases ownK_get hO with ⟨_,h0,A,rfl⟩ | ⟨b,cap,arr,rfl,rfl,hle,h63,_⟩
   ·exact ⟨A,0,by rw [h0]; rfl,by rw [h0]; simp,by omega,fun _=>rfl⟩
   ·exact ⟨_,cap,rfl,hle,h63,fun h=>by cases h⟩
  obtain ⟨base,c,rfl,hle,h63,hbn⟩:=hform
  obtain ⟨v',w1,B',k1,k2,k3,k4⟩:=app_one hO vb 0 vc (by omega) hvs
  rw [hend]
  refine (H.ins_end base x.rows.length c vb 0 vc w w1 v' hle h63 hbn k1).mono ?_
  rintro ex w' ⟨rfl,rfl⟩
  exact ⟨_,B',rfl,k2,k3,k4⟩
 ·have hlt:i<x.rows.length:=by omega
  rcases ownK_get hO with ⟨_,h0,_⟩ | ⟨b,cap,arr,rfl,rfl,hle,h63,hh,hs,hc⟩
  ·rw [h0] at hlt; simp at hlt
  ·have hne:vb≠b:=by
    rintro rfl
    have:=hB vb rfl
    omega
   obtain ⟨n,hn⟩:∃ n,n=x.rows.length:=⟨_,rfl⟩
   rw [← hn] at hle hlt ⊢
   have hcl:(cellsV x.rows).length=n*2:=by rw [cellsV_len,hn]
   have hcs:∀ (j:Nat) v,(cellsV x.rows)[j]?=some v→w.cell? ⟨b,0+j,none⟩=some v:=fun j v hj=>by rw [Nat.zero_add,cell_at hh]; exact hc j v hj
   have hil:(insRows x.rows i r0).length=n+1:=by simp [insRows]; omega
   have hdl:((cellsV x.rows).drop (i*2)).length=(n - i)*2:=by rw [List.length_drop,hcl]; omega
   have hvl:(cellsV [r0]).length=2:=rfl
   by_cases hroom:n+1≤cap
   ·have:=H.ins_shift b 0 n cap i (i+1) vb 0 vc (cellsV x.rows) (cellsV [r0]) w rfl hlt hroom h63 hne hcl rfl hcs
     (fun j hj=>by rw [Nat.zero_add,cell_at hh,Array.getElem?_eq_getElem (by omega)]; rfl) (fun j _=>unfrozen hh _) hvs (cellsV_one _) (cellsV_one _) vE 176 varr.size arr.size (by simp [World.shape?,hvh]) (by simp [World.shape?,hh]) (by omega) (unfrozen hvh _) (unfrozen hvh _)
    refine this.mono ?_
    rintro ex w' ⟨rfl,rfl⟩
    obtain ⟨arr1,a1,a2,a3,a4⟩:=setCells_heap b 176 (0,0) ((cellsV x.rows).drop (i*2)) (0+(i+1)*2) w.drew arr hh (by rw [hdl,hs]; omega)
    obtain ⟨arr2,b1,b2,b3,b4⟩:=setCells_heap b 176 (0,0) (cellsV [r0]) (0+i*2) _ arr1 a1 (by rw [hvl,a2,hs]; omega)
    obtain ⟨c1,c2,c3,c4,c5⟩:=setCells_else b ((cellsV x.rows).drop (i*2)) (0+(i+1)*2) w.drew
    obtain ⟨d1,d2,d3,d4,d5⟩:=setCells_else b (cellsV [r0]) (0+i*2) (w.drew.setCells b (0+(i+1)*2) ((cellsV x.rows).drop (i*2)))
    refine ⟨_,some b,rfl,⟨d1.trans c1,d2.trans c2,d3.trans c3,Nat.le_of_eq (d4.trans c4).symm,fun k _ hk=>(d5 k (fun e=>hk (by rw [e]))).trans (c5 k (fun e=>hk (by rw [e])))⟩,?_,fun b hb=>.inl hb⟩
    refine ownK_mk b1 hil.symm (by rw [b2,a2,hs]) (by omega) h63 fun k v hk=>?_
    rcases cellsV_ins x.rows i r0 (by omega) hk with ⟨q1,q2⟩ | ⟨q1,q2,q3⟩ | ⟨q1,q2⟩
    ·rw [b3 k (.inl (by omega)),a3 k (.inl (by omega))]
     exact hc k v q2
    ·have:=b4 _ v q3
     rwa [show 0+i*2+(k - i*2)=k from by omega] at this
    ·rw [b3 k (.inr (by rw [hvl]; omega))]
     have:=a4 _ v q2
     rwa [show 0+(i+1)*2+(k - (i+1)*2)=k from by omega] at this
   ·obtain rfl:cap=n:=by omega
    have:=H.ins_grow b 0 cap i (i+1) vb 0 vc (cellsV x.rows) (cellsV [r0]) w rfl hlt (by omega) hcl rfl hcs hvs (cellsV_one _) (cellsV_one _)
    refine this.mono ?_
    rintro ex w' ⟨rfl,rfl⟩
    have hge:=grownCap_ge w (cap+1) cap 176
    have hcm:=grownCap_le_maxLen w (cap+1) cap 176 (by unfold maxLen; omega)
    obtain ⟨G,hG⟩:∃ G,G=grownCap w (cap+1) cap 176:=⟨_,rfl⟩
    rw [← hG] at hge hcm ⊢
    have hzz:H.zc.cells.size=2:=rfl
    obtain ⟨ROW,hROW⟩:∃ ROW:Array Value,ROW=((cellsV x.rows).take (i*2)).toArray++Builtin.zeroCells H.zc.cells (cap+1 - i)++Builtin.zeroCells H.zc.cells (G - (cap+1)):=⟨_,rfl⟩
    have htl:((cellsV x.rows).take (i*2)).length=i*2:=by rw [List.length_take,hcl]; omega
    have hRs:ROW.size=G*2:=by
     rw [hROW]
     simp only [Array.size_append,List.size_toArray,htl,size_zeroCells,hzz]
     omega
    have hRt:∀ (k:Nat) v,k<i*2→(cellsV x.rows)[k]?=some v→ROW[k]?=some v:=fun k v hk hv=>by
     rw [hROW,Array.append_assoc,Array.getElem?_append_left (by simp only [List.size_toArray,htl]; exact hk)]
     simp [List.getElem?_take,hk,hv]
    rw [← hROW]
    have hW:((w.alloc (.cells ROW 176)).drew).heap[w.heap.size]?=some (.cells ROW 176 (0,0)):=by letI:Low:=⟨fun _=>0⟩; exact heap_new w _
    obtain ⟨arr1,a1,a2,a3,a4⟩:=setCells_heap w.heap.size 176 (0,0) (cellsV [r0]) (i*2) _ ROW hW (by rw [hvl,hRs]; omega)
    obtain ⟨arr2,b1,b2,b3,b4⟩:=setCells_heap w.heap.size 176 (0,0) ((cellsV x.rows).drop (i*2)) ((i+1)*2) ((((w.alloc (.cells ROW 176)).drew).setCells w.heap.size (i*2) (cellsV [r0])).drew) arr1 a1 (by rw [hdl,a2,hRs]; omega)
    obtain ⟨c1,c2,c3,c4,c5⟩:=setCells_else w.heap.size (cellsV [r0]) (i*2) ((w.alloc (.cells ROW 176)).drew)
    obtain ⟨d1,d2,d3,d4,d5⟩:=setCells_else w.heap.size ((cellsV x.rows).drop (i*2)) ((i+1)*2) ((((w.alloc (.cells ROW 176)).drew).setCells w.heap.size (i*2) (cellsV [r0])).drew)
    refine ⟨_,some w.heap.size,rfl,⟨d1.trans c1,d2.trans c2,d3.trans c3,?_,fun k hk _=>(d5 k (by omega)).trans ((c5 k (by omega)).trans (Below.heap_alloc w _ k hk))⟩,?_,fun b hb=>.inr (by injection hb with hb; omega)⟩
    ·refine Nat.le_trans ?_ (Nat.le_of_eq (d4.trans c4).symm)
     show w.heap.size≤(w.heap.push _).size
     rw [Array.size_push]
     omega
    ·refine ownK_mk b1 hil.symm (by rw [b2,a2,hRs]) (by omega) (by unfold maxLen at hcm; omega) fun k v hk=>?_
     rcases cellsV_ins x.rows i r0 (by omega) hk with ⟨q1,q2⟩ | ⟨q1,q2,q3⟩ | ⟨q1,q2⟩
     ·rw [b3 k (.inl (by omega)),a3 k (.inl (by omega))]
      exact hRt k v q1 q2
     ·rw [b3 k (.inl (by omega))]
      have:=a4 _ v q3
      rwa [show i*2+(k - i*2)=k from by omega] at this
     ·have:=b4 _ v q2
      rwa [show (i+1)*2+(k - (i+1)*2)=k from by omega] at this
end Go.Proofs.YtchceahcaaibcaaGreat
namespace Go.Proofs.YtchceahcaaibcaaGreat
set_option maxRecDepth 4096
set_option maxHeartbeats 1000000
abbrev i_putT:FuncId→List T→Option (T × Bool):=find [i_cellForWE,i_clonCE,i_delCE,i_insCE]
theorem i_putT_ok:CallOk Tryz.prog i_putT:=find_ok (fC ⟨i_cellForW_ok,fC ⟨i_clonC_ok,fC ⟨i_delC_ok,fC ⟨i_insC_ok,fN⟩⟩⟩⟩)
abbrev i_putK:List Nat:= [0,1,2,6,7,8,9,16,28,33]
theorem i_put_ev (N:Nat) (p q r:List D):evFn Tryz.prog i_putT N i_putK Tryz.f295 (.one (.c (.own (0,0) true 176))) [⟨sd (.sl 176),p⟩,⟨ri,q⟩,⟨ri,r⟩]=some (bo,
 nd (cellsUp (gd p 0)&&inB (gd q 0).int 0 999) (bif (gd r 0).int==(-1) then bif bsB (gd p 0) (gd q 0).int then nd (leI ((gd p 0).rows.length:Int) 1000000) (nd (leI ((gd p 0).rows.length:Int) 1000000&&inRange (lowN (gd p 0) (gd q 0).int:Int) (gd p 0).rows.length&&((w64 ((lowN (gd p 0) (gd q 0).int:Int)+1))==(lowN (gd p 0) (gd q 0).int:Int)+1)) (some (1,[.l (delRows (gd p 0).rows (lowN (gd p 0) (gd q 0).int:Int).toNat)])))
 else bif (gd r 0).int==(-1) then nd (leI ((gd p 0).rows.length:Int) 1000000) (some (1,[.l (gd p 0).rows]))
 else bif bsB (gd p 0) (gd q 0).int then nd (leI ((gd p 0).rows.length:Int) 1000000) (nd (inRange (lowN (gd p 0) (gd q 0).int:Int) (gd p 0).rows.length) (some (1,[.l ((gd p 0).rows.set (lowN (gd p 0) (gd q 0).int:Int).toNat [gd ((gd p 0).rows.getD (lowN (gd p 0) (gd q 0).int:Int).toNat []) 0,gd r 0])])))
 else nd (leI ((gd p 0).rows.length:Int) 1000000) (nd (leI ((gd p 0).rows.length:Int) 1000000&&leI 0 (lowN (gd p 0) (gd q 0).int:Int)&&leI (lowN (gd p 0) (gd q 0).int:Int) ((gd p 0).rows.length:Int)&&([[gd q 0,gd r 0]].length==1)) (some (1,[.l (insRows (gd p 0).rows (lowN (gd p 0) (gd q 0).int:Int).toNat ([[gd q 0,gd r 0]].getD 0 []))])))
 else bif (gd r 0).int==(-1) then nd (leI ((gd p 0).rows.length:Int) 1000000) (some (1,[.l (gd p 0).rows]))
 else bif bsB (gd p 0) (gd q 0).int then nd (leI ((gd p 0).rows.length:Int) 1000000) (nd (inRange (lowN (gd p 0) (gd q 0).int:Int) (gd p 0).rows.length) (some (1,[.l ((gd p 0).rows.set (lowN (gd p 0) (gd q 0).int:Int).toNat [gd ((gd p 0).rows.getD (lowN (gd p 0) (gd q 0).int:Int).toNat []) 0,gd r 0])])))
 else nd (leI ((gd p 0).rows.length:Int) 1000000) (nd (leI ((gd p 0).rows.length:Int) 1000000&&leI 0 (lowN (gd p 0) (gd q 0).int:Int)&&leI (lowN (gd p 0) (gd q 0).int:Int) ((gd p 0).rows.length:Int)&&([[gd q 0,gd r 0]].length==1)) (some (1,[.l (insRows (gd p 0).rows (lowN (gd p 0) (gd q 0).int:Int).toNat ([[gd q 0,gd r 0]].getD 0 []))]))))):=by kernel_rfl
theorem cnt_leW {C:Nat→Bool}:∀ m k,cnt C k m≤m
 | 0,_=>Nat.le_refl _
 | m+1,k=>by
  have:=cnt_leW (C:=C) m k
  rw [cnt_succ]
  cases C (k+m) <;> simp <;> omega
theorem low_le (z:D) (t:Int):lowN z t≤z.rows.length:=cnt_leW _ _
theorem bs_lt {z:D} {t:Int} (h:bsB z t=true):lowN z t<z.rows.length:=by
 simp only [bsB,Bool.and_eq_true,ltI,decide_eq_true_eq] at h
 omega
def putRaw (z k v:D):D:=bif bsB z k.int then (bif v.int == -1 then .l (delRows z.rows (lowN z k.int)) else .l (z.rows.set (lowN z k.int) [gd (z.rows.getD (lowN z k.int) []) 0,v])) else (bif v.int == -1 then .l z.rows else .l (insRows z.rows (lowN z k.int) [k,v]))
def i_putE:Ent:=(295,e3 (sd (.sl 176)) ri ri fun p q r=>(⟨.one (.c (.own (0,0) true 176)),[putRaw (gd p 0) (gd q 0) (gd r 0)]⟩,cellsUp (gd p 0)&&inB (gd q 0).int 0 999))
theorem i_put_ok:EntOk Tryz.prog i_putE:=e3_ok fun p q r h=>evFn_sound (N:=0) (ks:=i_putK) (key:=bo) i_putT_ok (enters Tryz.func295) Tryz.func295 fun hw=>by
 rw [i_put_ev]
 have h:(cellsUp (gd p 0)&&inB (gd q 0).int 0 999)=true:=h
 rw [h,nd_true]
 simp only [Bool.and_eq_true] at h
 have hz:=up_sorted h.1
 have hl:=hz.len
 have hlow:=low_le (gd p 0) (gd q 0).int
 have h1:leI ((gd p 0).rows.length:Int) 1000000=true:=leI_t (by omega)
 have h3:leI (lowN (gd p 0) (gd q 0).int:Int) ((gd p 0).rows.length:Int)=true:=leI_t (by omega)
 have h4:w64 ((lowN (gd p 0) (gd q 0).int:Int)+1)=(lowN (gd p 0) (gd q 0).int:Int)+1:=w64_id (by omega) (by omega)
 unfold putRaw
 simp only [h1,leI_0,h3,h4,nd_true,Int.toNat_natCast,Bool.true_and,beq_self_eq_true,Bool.and_true]
 cases hb:bsB (gd p 0) (gd q 0).int
 ·cases (gd r 0).int == -1 <;> rfl
 ·rw [inRange_nat (bs_lt hb)]
  cases (gd r 0).int == -1 <;> rfl
abbrev s_l2CellsT:FuncId→List T→Option (T × Bool):=find []
theorem s_l2CellsT_ok:CallOk Tryz.prog s_l2CellsT:=find_ok (fN)
abbrev s_l2CellsK:List Nat:= [0,1,2,3,8,9,10,11,18,31,44,53,3000008]
noncomputable def s_l2CellsL0 (N:Nat) (p q r s:List D):List D→Out:=loopOf Tryz.prog s_l2CellsT N s_l2CellsK Tryz.f333 (.one (.c (.own (0,0) true 176))) [⟨sd (.sl 176),p⟩,⟨ri,q⟩,⟨ri,r⟩,⟨rb,s⟩] 0
theorem s_l2CellsR0 (N:Nat) (p q r s:List D) (x0 x1 x2 x3 x4 x5 x6 x7:D):(s_l2CellsL0 N p q r s) [x0,x1,x2,x3,x4,x5,x6,x7] =
 bif ltI x7.int (x0.rows.length:Int) then bif !x6.bool then nd (inRange x7.int x0.rows.length) (bif leI x1.int (gd (x0.rows.getD x7.int.toNat []) 0).int then nd (lenOk (x5.rows ++ [[x1,x2]])&&true) ((let r8:Out:=nx [x0,x1,x2,x3,x4,.l (x5.rows ++ [[x1,x2]]),.b true,x7,.b (ltI x7.int (x0.rows.length:Int)),.b (leI x1.int (gd (x0.rows.getD x7.int.toNat []) 0).int)]
  nd r8.isSome (nd (inRange (gd r8.pay 7).int (gd r8.pay 0).rows.length) (bif (gd ((gd r8.pay 0).rows.getD (gd r8.pay 7).int.toNat []) 0).int != (gd r8.pay 1).int then nd (inRange (gd r8.pay 7).int (gd r8.pay 0).rows.length) (nd (lenOk ((gd r8.pay 5).rows ++ [sub ((gd r8.pay 0).rows.getD (gd r8.pay 7).int.toNat []) 0 2])&&true) (nx [gd r8.pay 0,gd r8.pay 1,gd r8.pay 2,gd r8.pay 3,gd r8.pay 4,.l ((gd r8.pay 5).rows ++ [sub ((gd r8.pay 0).rows.getD (gd r8.pay 7).int.toNat []) 0 2]),gd r8.pay 6,.i (w64 ((gd r8.pay 7).int+1))]))
  else nx [gd r8.pay 0,gd r8.pay 1,gd r8.pay 2,gd r8.pay 3,gd r8.pay 4,gd r8.pay 5,gd r8.pay 6,.i (w64 ((gd r8.pay 7).int+1))]))))
 else nd (inRange x7.int x0.rows.length) (bif (gd (x0.rows.getD x7.int.toNat []) 0).int != x1.int then nd (inRange x7.int x0.rows.length) (nd (lenOk (x5.rows ++ [sub (x0.rows.getD x7.int.toNat []) 0 2])&&true) (nx [x0,x1,x2,x3,x4,.l (x5.rows ++ [sub (x0.rows.getD x7.int.toNat []) 0 2]),x6,.i (w64 (x7.int+1))]))
 else nx [x0,x1,x2,x3,x4,x5,x6,.i (w64 (x7.int+1))]))
 else nd (inRange x7.int x0.rows.length) (bif (gd (x0.rows.getD x7.int.toNat []) 0).int != x1.int then nd (inRange x7.int x0.rows.length) (nd (lenOk (x5.rows ++ [sub (x0.rows.getD x7.int.toNat []) 0 2])&&true) (nx [x0,x1,x2,x3,x4,.l (x5.rows ++ [sub (x0.rows.getD x7.int.toNat []) 0 2]),x6,.i (w64 (x7.int+1))]))
 else nx [x0,x1,x2,x3,x4,x5,x6,.i (w64 (x7.int+1))])
 else ex 0 [x0,x1,x2,x3,x4,x5,x6,x7]:=by kernel_rfl
theorem s_l2Cells_ev (N:Nat) (p q r s:List D):evFn Tryz.prog s_l2CellsT N s_l2CellsK Tryz.f333 (.one (.c (.own (0,0) true 176))) [⟨sd (.sl 176),p⟩,⟨ri,q⟩,⟨ri,r⟩,⟨rb,s⟩]=some (bo,
 (let o0:=iter (s_l2CellsL0 N p q r s) N [gd p 0,gd q 0,gd r 0,gd s 0,.l [],.l [],.b (!(gd s 0).bool),.i 0]
  nd o0.isSome (nd (o0.code==2) (bif !(gd o0.pay 6).bool then nd (lenOk ((gd o0.pay 5).rows ++ [sub o0.pay 1 2])&&true) (some (1,[.l ((gd o0.pay 5).rows ++ [sub o0.pay 1 2])]))
  else some (1,[gd o0.pay 5]))))):=by kernel_rfl
def stepL (k v:D) (st:List (List D) × Bool) (r:List D):List (List D) × Bool:=
 (bif (gd r 0).int != k.int then (bif !st.2&&leI k.int (gd r 0).int then st.1 ++ [[k,v]] else st.1) ++ [sub r 0 2] else (bif !st.2&&leI k.int (gd r 0).int then st.1 ++ [[k,v]] else st.1),st.2||leI k.int (gd r 0).int)
def accL (z k v:D) (keep:Bool) (n:Nat):List (List D) × Bool:=(z.rows.take n).foldl (stepL k v) ([],!keep)
theorem accL_succ (z k v:D) (keep:Bool) {n:Nat} (h:n<z.rows.length):accL z k v keep (n+1)=stepL k v (accL z k v keep n) (z.rows.getD n []):=by
 unfold accL
 rw [List.take_add_one,List.foldl_append,List.getElem?_eq_getElem h,List.getD_eq_getElem?_getD,List.getElem?_eq_getElem h]
 rfl
theorem accL_len (z k v:D) (keep:Bool):∀ n,n≤z.rows.length→(accL z k v keep n).1.length≤2*n
 | 0,_=>by simp [accL]
 | n+1,h=>by
  rw [accL_succ z k v keep (by omega)]
  have:=accL_len z k v keep n (by omega)
  unfold stepL
  generalize accL z k v keep n=A at *
  cases !A.2&&leI k.int (gd (z.rows.getD n []) 0).int <;> cases (gd (z.rows.getD n []) 0).int != k.int <;> simp <;> omega
def l2Raw (z k v:D) (keep:Bool):D:=.l (bif !(accL z k v keep z.rows.length).2 then (accL z k v keep z.rows.length).1 ++ [[k,v]] else (accL z k v keep z.rows.length).1)
def s_l2CellsE:Ent:=(333,e4 (sd (.sl 176)) ri ri rb fun p q r s=>(⟨.one (.c (.own (0,0) true 176)),[l2Raw (gd p 0) (gd q 0) (gd r 0) (gd s 0).bool]⟩,leI ((gd p 0).rows.length:Int) 1000000))
theorem s_l2Cells_ok:EntOk Tryz.prog s_l2CellsE:=e4_ok fun p q r s h=>evFn_sound (N:=(gd p 0).rows.length+1) (ks:=s_l2CellsK) (key:=bo) s_l2CellsT_ok (enters Tryz.func333) Tryz.func333 fun hw=>by
 rw [s_l2Cells_ev]
 have h:leI ((gd p 0).rows.length:Int) 1000000=true:=h
 simp only [leI,decide_eq_true_eq] at h
 have e:=run_loop (L:=s_l2CellsL0 ((gd p 0).rows.length+1) p q r s) (fun n => [gd p 0,gd q 0,gd r 0,gd s 0,.l [],.l (accL (gd p 0) (gd q 0) (gd r 0) (gd s 0).bool n).1,.b (accL (gd p 0) (gd q 0) (gd r 0) (gd s 0).bool n).2,.i (n:Int)]) (gd p 0).rows.length 0 (fun k hk=>?_) ?_ (N:=(gd p 0).rows.length+1) (by omega)
 ·simp only [Int.natCast_zero] at e
  rw [show (accL (gd p 0) (gd q 0) (gd r 0) (gd s 0).bool 0)=([],!(gd s 0).bool) from rfl] at e
  rw [e]
  have hA:=accL_len (gd p 0) (gd q 0) (gd r 0) (gd s 0).bool _ (Nat.le_refl _)
  simp only [nd,cond_true,cond_false,Option.isSome_some,Out.code,Out.pay,Option.getD_some,gd_cons_zero,gd_cons_succ,Nat.reduceBEq,Nat.reduceAdd,int_i,bool_b,str_s,rows_l,Bool.not_true,Bool.not_false,beq_self_eq_true]
  unfold l2Raw
  generalize accL (gd p 0) (gd q 0) (gd r 0) (gd s 0).bool (gd p 0).rows.length=A at *
  have hA2:lenOk (A.1 ++ [[gd q 0,gd r 0]])=true:=lenOk_t (by simp; omega)
  cases A.2
  ·change some (bo,bif lenOk (A.1 ++ [[gd q 0,gd r 0]])&&true then some (1,[D.l (A.1 ++ [[gd q 0,gd r 0]])]) else none)=_
   rw [hA2]
   rfl
  ·rfl
 ·show s_l2CellsL0 _ p q r s [_,_,_,_,_,_,_,.i (k:Int)]=_
  rw [s_l2CellsR0,accL_succ _ _ _ _ hk]
  have hA:=accL_len (gd p 0) (gd q 0) (gd r 0) (gd s 0).bool k (by omega)
  generalize accL (gd p 0) (gd q 0) (gd r 0) (gd s 0).bool k=A at *
  have hA1:∀ x,lenOk (A.1 ++ [x])=true:=fun x=>lenOk_t (by simp; omega)
  have hA2:∀ x y,lenOk (A.1 ++ [x] ++ [y])=true:=fun x y=>lenOk_t (by simp; omega)
  simp only [int_i,bool_b,rows_l,c_lt hk,nd_ix hk,w64_succ hk (show (gd p 0).rows.length≤9223372036854775807 from by omega),Int.toNat_natCast,stepL,hA1,Bool.and_true,nd_true]
  cases A.2 <;> cases leI (gd q 0).int (gd ((gd p 0).rows.getD k []) 0).int <;> cases hn:(gd ((gd p 0).rows.getD k []) 0).int != (gd q 0).int <;> simp only [nd,cond_true,cond_false,Option.isSome_some,Out.code,Out.pay,Option.getD_some,gd_cons_zero,gd_cons_succ,Nat.reduceBEq,Nat.reduceAdd,int_i,bool_b,str_s,rows_l,Bool.not_true,Bool.not_false,beq_self_eq_true,hA1,hA2,hn,inRange_nat hk,Int.toNat_natCast,Bool.and_true,Bool.and_false,Bool.false_and,Bool.true_and,Bool.or_true,Bool.or_false,Bool.true_or,Bool.false_or,w64_succ hk (show (gd p 0).rows.length≤9223372036854775807 from by omega)]
 ·show s_l2CellsL0 _ p q r s [_,_,_,_,_,_,_,.i ((gd p 0).rows.length:Int)]=_
  rw [s_l2CellsR0]
  simp only [int_i,c_nlt]
end Go.Proofs.YtchceahcaaibcaaGreat
namespace Go.Proofs.YtchceahcaaibcaaGreat
def pr (r:List D):Int × Int:=((gd r 0).int,(gd r 1).int)
def prs (z:D):List (Int × Int):=z.rows.map pr
def prD (xs:List (Int × Int)):D:=.l (xs.map fun a => [.i a.1,.i a.2])
theorem prs_prD (xs:List (Int × Int)):prs (prD xs)=xs:=by
 unfold prs prD
 show ((xs.map _).map pr)=xs
 rw [List.map_map]
 have:(pr ∘ fun a:Int × Int => [D.i a.1,D.i a.2])=id:=by funext a; rfl
 rw [this,List.map_id]
theorem prs_len (z:D):(prs z).length=z.rows.length:=by simp [prs]
theorem prs_at (z:D) (i:Nat) (h:i<z.rows.length):(prs z)[i]'(by rw [prs_len]; exact h)=(keyAt z i,(gd (z.rows.getD i []) 1).int):=by
 simp [prs,pr,keyAt,List.getD_eq_getElem?_getD,List.getElem?_eq_getElem h]
theorem pr_sub (r:List D):pr (sub r 0 2)=pr r:=rfl
def upL (xs:List (Int × Int)):Prop:=xs.Pairwise (fun a b=>a.1<b.1)∧∀ a∈xs,0≤a.1∧a.1≤999
theorem SortedW.upL {z:D} (h:SortedW z):upL (prs z):=by
 refine ⟨List.pairwise_iff_getElem.2 fun i j hi hj hij=>?_,fun a ha=>?_⟩
 ·have hi':i<z.rows.length:=by rwa [prs_len] at hi
  have hj':j<z.rows.length:=by rwa [prs_len] at hj
  rw [prs_at z i hi',prs_at z j hj']
  exact h.lt i j hij hj'
 ·obtain ⟨i,hi,rfl⟩:=List.mem_iff_getElem.1 ha
  have hi':i<z.rows.length:=by rwa [prs_len] at hi
  rw [prs_at z i hi']
  exact h.key i hi'
theorem up_len {xs:List (Int × Int)} (h:upL xs):xs.length≤1000:=by
 have hk:∀ i (hi:i<xs.length),(i:Int)≤(xs[i]).1:=by
  intro i
  induction i with
  | zero=>intro hi; exact (h.2 _ (List.getElem_mem hi)).1
  | succ i ih =>
   intro hi
   have h1:=ih (by omega)
   have h2:=List.pairwise_iff_getElem.1 h.1 i (i+1) (by omega) hi (by omega)
   omega
 rcases Nat.lt_or_ge 1000 xs.length with hlt | hge
 ·have h1:=hk 1000 hlt
  have h2:=(h.2 _ (List.getElem_mem hlt)).2
  omega
 ·exact hge
theorem sorted_of {z:D} (h:upL (prs z)):SortedW z:=by
 refine ⟨by rw [← prs_len]; exact up_len h,fun k hk=>?_,fun i j hij hj=>?_⟩
 ·have:=h.2 _ (List.getElem_mem (show k<(prs z).length from by rw [prs_len]; exact hk))
  rw [prs_at z k hk] at this
  exact this
 ·have:=List.pairwise_iff_getElem.1 h.1 i j (by rw [prs_len]; omega) (by rw [prs_len]; exact hj) hij
  rw [prs_at z i (by omega),prs_at z j hj] at this
  exact this
theorem up_iff {z:D}:cellsUp z=true↔upL (prs z):=⟨fun h=>(up_sorted h).upL,fun h=>sorted_up (sorted_of h)⟩
def lessK (k:Int) (xs:List (Int × Int)):List (Int × Int):=xs.filter fun a=>decide (a.1<k)
def moreK (k:Int) (xs:List (Int × Int)):List (Int × Int):=xs.filter fun a=>decide (k<a.1)
def putP (xs:List (Int × Int)) (k v:Int) (keep:Bool):List (Int × Int):=lessK k xs++(bif keep then [(k,v)] else [])++moreK k xs
theorem putP_up {xs:List (Int × Int)} (h:upL xs) {k:Int} (hk:0≤k∧k≤999) (v:Int) (keep:Bool):upL (putP xs k v keep):=by
 have hl:∀ a∈lessK k xs,a.1<k:=fun a ha=>by simpa using (List.mem_filter.1 ha).2
 have hm:∀ a∈moreK k xs,k<a.1:=fun a ha=>by simpa using (List.mem_filter.1 ha).2
 have pl:(lessK k xs).Pairwise (fun a b=>a.1<b.1):=h.1.filter _
 have pm:(moreK k xs).Pairwise (fun a b=>a.1<b.1):=h.1.filter _
 unfold putP
 refine ⟨?_,?_⟩
 ·refine List.pairwise_append.2 ⟨List.pairwise_append.2 ⟨pl,by cases keep <;> simp,fun a ha b hb=>?_⟩,pm,fun a ha b hb=>?_⟩
  ·cases keep with
   | true=>simp only [cond_true,List.mem_singleton] at hb; subst hb; exact hl a ha
   | false=>simp at hb
  ·rcases List.mem_append.1 ha with ha | ha
   ·have:=hl a ha; have:=hm b hb; omega
   ·cases keep with
    | true=>simp only [cond_true,List.mem_singleton] at ha; subst ha; exact hm b hb
    | false=>simp at ha
 ·intro a ha
  rcases List.mem_append.1 ha with ha | ha
  ·rcases List.mem_append.1 ha with ha | ha
   ·exact h.2 a (List.mem_filter.1 ha).1
   ·cases keep with
    | true=>simp only [cond_true,List.mem_singleton] at ha; subst ha; exact hk
    | false=>simp at ha
  ·exact h.2 a (List.mem_filter.1 ha).1
theorem more_all {xs:List (Int × Int)} {k:Int} (h:∀ a∈xs,k<a.1):moreK k xs=xs∧lessK k xs = []:=by
 refine ⟨List.filter_eq_self.2 fun a ha=>by simpa using h a ha,List.filter_eq_nil_iff.2 fun a ha=>?_⟩
 have:=h a ha
 simp; omega
theorem cnt_filterU (f:List D→Bool) (rows:List (List D)):∀ m,m≤rows.length→cnt (fun k=>f (rows.getD k [])) 0 m=((rows.take m).filter f).length
 | 0,_=>by simp [cnt]
 | m+1,h=>by
  rw [cnt_succ,cnt_filterU f rows m (by omega),List.take_add_one,List.getElem?_eq_getElem (by omega),List.filter_append,List.length_append,Nat.zero_add,List.getD_eq_getElem?_getD,List.getElem?_eq_getElem (by omega)]
  congr 1
  simp only [Option.getD_some,Option.toList_some,List.filter_cons,List.filter_nil]
  cases f rows[m] <;> rfl
theorem low_less {z:D} (t:Int):lowN z t=(lessK t (prs z)).length:=by
 unfold lowN lessK prs
 rw [List.filter_map,List.length_map]
 have:=cnt_filterU (fun r=>decide ((gd r 0).int<t)) z.rows z.rows.length (Nat.le_refl _)
 rw [List.take_length] at this
 exact this
theorem rise_split0 {xs:List (Int × Int)} (h:xs.Pairwise (fun a b=>a.1<b.1)) (k:Int):xs=lessK k xs++(xs.filter fun a=>a.1==k)++moreK k xs:=by
 induction xs with
 | nil=>rfl
 | cons a xs ih =>
  rw [List.pairwise_cons] at h
  have:=ih h.2
  unfold lessK moreK at *
  rw [List.filter_cons,List.filter_cons,List.filter_cons]
  rcases Int.lt_trichotomy a.1 k with hlt | he | hgt
  ·rw [if_pos (by simpa using hlt),if_neg (by simp; omega),if_neg (by simp; omega)]
   rw [List.cons_append,List.cons_append,← this]
  ·rw [if_neg (by simp; omega),if_pos (by simpa using he),if_neg (by simp; omega)]
   have hall:∀ b∈xs,k<b.1:=fun b hb=>by have:=h.1 b hb; omega
   obtain ⟨q1,q2⟩:=more_all hall
   unfold moreK at q1
   unfold lessK at q2
   rw [q1,q2,show (xs.filter fun a=>a.1==k) = [] from List.filter_eq_nil_iff.2 fun b hb=>by have:=hall b hb; simp; omega]
   rfl
  ·rw [if_neg (by simp; omega),if_neg (by simp; omega),if_pos (by simpa using hgt)]
   have hall:∀ b∈xs,k<b.1:=fun b hb=>by have:=h.1 b hb; omega
   obtain ⟨q1,q2⟩:=more_all hall
   unfold moreK at q1
   unfold lessK at q2
   rw [q1,q2,show (xs.filter fun a=>a.1==k) = [] from List.filter_eq_nil_iff.2 fun b hb=>by have:=hall b hb; simp; omega]
   rfl
theorem rise_split {xs:List (Int × Int)} (h:upL xs) (k:Int):xs=lessK k xs++(xs.filter fun a=>a.1==k)++moreK k xs:=rise_split0 h.1 k
theorem bs_yes {z:D} (h:SortedW z) {t:Int} (hb:bsB z t=true):∃ v,((prs z).filter fun a=>a.1==t) = [(t,v)]:=by
 have hlt:=bs_lt hb
 have hk:keyAt z (lowN z t)=t:=by
  simp only [bsB,Bool.and_eq_true,beq_iff_eq] at hb
  exact hb.2
 have hu:=h.upL
 refine ⟨(gd (z.rows.getD (lowN z t) []) 1).int,?_⟩
 have hmem:(t,(gd (z.rows.getD (lowN z t) []) 1).int)∈(prs z).filter fun a=>a.1==t:=by
  refine List.mem_filter.2 ⟨?_,by simp⟩
  have:=prs_at z _ hlt
  rw [hk] at this
  rw [← this]
  exact List.getElem_mem _
 have hp:((prs z).filter fun a=>a.1==t).Pairwise (fun a b=>a.1<b.1):=hu.1.filter _
 have hall:∀ a∈(prs z).filter fun a=>a.1==t,a.1=t:=fun a ha=>by simpa using (List.mem_filter.1 ha).2
 generalize ((prs z).filter fun a=>a.1==t)=l at *
 match l with
 | []=>simp at hmem
 | [a]=>simp only [List.mem_singleton] at hmem; rw [hmem]
 | a::b::l =>
  rw [List.pairwise_cons] at hp
  have h1:=hp.1 b (by simp)
  have h2:=hall a (by simp)
  have h3:=hall b (by simp)
  omega
theorem bs_no {z:D} (h:SortedW z) {t:Int} (hb:bsB z t=false):((prs z).filter fun a=>a.1==t) = []:=by
 refine List.filter_eq_nil_iff.2 fun a ha he=>?_
 have he:a.1=t:=by simpa using he
 obtain ⟨i,hi,rfl⟩:=List.mem_iff_getElem.1 ha
 have hi':i<z.rows.length:=by rwa [prs_len] at hi
 rw [prs_at z i hi'] at he
 have he:keyAt z i=t:=he
 have hl:lowN z t=i:=lowN_eq (by omega) (fun k hk=>by have:=h.lt k i hk hi'; omega) (fun k h1 h2=>by
  rcases Nat.lt_or_ge i k with hik | hik
  ·have:=h.lt i k hik h2; omega
  ·obtain rfl:k=i:=by omega
   omega)
 unfold bsB at hb
 rw [hl,ltI_nat hi',he,beq_self_eq_true] at hb
 cases hb
theorem take_low {z:D} (h:SortedW z) (t:Int):(prs z).take (lowN z t)=lessK t (prs z):=by
 have:=rise_split h.upL t
 rw [low_less]
 have e:=congrArg (List.take (lessK t (prs z)).length) this
 rw [e,List.append_assoc]
 exact List.take_left' rfl
theorem drop_no {z:D} (h:SortedW z) {t:Int} (hb:bsB z t=false):(prs z).drop (lowN z t)=moreK t (prs z):=by
 have:=rise_split h.upL t
 rw [bs_no h hb,List.append_nil] at this
 rw [low_less]
 have e:=congrArg (List.drop (lessK t (prs z)).length) this
 rw [e]
 exact List.drop_left' rfl
theorem drop_yes {z:D} (h:SortedW z) {t:Int} (hb:bsB z t=true):(prs z).drop (lowN z t+1)=moreK t (prs z):=by
 have:=rise_split h.upL t
 obtain ⟨v,hv⟩:=bs_yes h hb
 rw [hv] at this
 rw [low_less]
 have e:=congrArg (List.drop ((lessK t (prs z)).length+1)) this
 rw [e]
 exact List.drop_left' (by simp)
theorem put_law {z:D} (h:SortedW z) (k v:D):prs (putRaw z k v)=putP (prs z) k.int v.int (!(v.int == -1)):=by
 have htk:=take_low h k.int
 unfold putRaw putP
 have hm:∀ rows,prs (.l rows)=rows.map pr:=fun _=>rfl
 cases hb:bsB z k.int with
 | true =>
  have hdr:=drop_yes h hb
  have hlt:=bs_lt hb
  cases hv:v.int == -1 with
  | true =>
   simp only [cond_true,Bool.not_true,cond_false,List.append_nil]
   rw [hm,delRows,List.map_append,List.map_take,List.map_drop]
   change (prs z).take _++(prs z).drop _=_
   rw [htk,hdr]
  | false =>
   simp only [cond_true,Bool.not_false,cond_false]
   have hset:prs (.l (z.rows.set (lowN z k.int) [gd (z.rows.getD (lowN z k.int) []) 0,v]))=(prs z).take (lowN z k.int) ++ [(k.int,v.int)]++(prs z).drop (lowN z k.int+1):=by
    rw [hm,List.map_set,List.set_eq_take_append_cons_drop,if_pos (by rw [List.length_map]; exact hlt)]
    have hk:keyAt z (lowN z k.int)=k.int:=by
     simp only [bsB,Bool.and_eq_true,beq_iff_eq] at hb
     exact hb.2
    have:pr [gd (z.rows.getD (lowN z k.int) []) 0,v]=(k.int,v.int):=by
     show ((gd (z.rows.getD (lowN z k.int) []) 0).int,v.int)=_
     rw [show (gd (z.rows.getD (lowN z k.int) []) 0).int=k.int from hk]
    rw [this]
    simp [prs]
   rw [hset,htk,hdr]
 | false =>
  have hdr:=drop_no h hb
  cases hv:v.int == -1 with
  | true =>
   simp only [cond_true,Bool.not_true,cond_false,List.append_nil]
   change prs z=_
   conv=>lhs; rw [← List.take_append_drop (lowN z k.int) (prs z)]
   rw [htk,hdr]
  | false =>
   simp only [cond_true,Bool.not_false,cond_false]
   rw [hm,insRows,List.map_append,List.map_cons,List.map_take,List.map_drop]
   change (prs z).take _++(pr [k,v]::(prs z).drop _)=_
   rw [htk,hdr,List.append_assoc]
   rfl
theorem fold_t (k v:D):∀ (rs:List (List D)) (acc:List (List D)),rs.foldl (stepL k v) (acc,true)=(acc++(rs.filter fun r=>(gd r 0).int != k.int).map (fun r=>sub r 0 2),true)
 | [],acc=>by simp
 | r::rs,acc=>by
  rw [List.foldl_cons]
  have:stepL k v (acc,true) r=(bif (gd r 0).int != k.int then acc ++ [sub r 0 2] else acc,true):=rfl
  rw [this,fold_t k v rs,List.filter_cons]
  cases (gd r 0).int != k.int <;> simp
def fin (k v:D) (R:List (List D) × Bool):List (List D):=bif !R.2 then R.1 ++ [[k,v]] else R.1
theorem ne_map (k:Int) (rs:List (List D)):((rs.filter fun r=>(gd r 0).int != k).map fun r=>sub r 0 2).map pr=(rs.map pr).filter fun a=>a.1 != k:=by
 rw [List.map_map,List.filter_map]
 rfl
theorem ne_split {xs:List (Int × Int)} (h:upL xs) (k:Int):(xs.filter fun a=>a.1 != k)=lessK k xs++moreK k xs:=by
 have hs:=rise_split h k
 conv=>lhs; rw [hs]
 rw [List.filter_append,List.filter_append]
 have h1:(lessK k xs).filter (fun a=>a.1 != k)=lessK k xs:=List.filter_eq_self.2 fun a ha=>by
  have:a.1<k:=by simpa using (List.mem_filter.1 ha).2
  simp; omega
 have h2:(moreK k xs).filter (fun a=>a.1 != k)=moreK k xs:=List.filter_eq_self.2 fun a ha=>by
  have:k<a.1:=by simpa using (List.mem_filter.1 ha).2
  simp; omega
 have h3:((xs.filter fun a=>a.1==k).filter fun a=>a.1 != k) = []:=List.filter_eq_nil_iff.2 fun a ha=>by
  have:a.1=k:=by simpa using (List.mem_filter.1 ha).2
  simp; omega
 rw [h1,h2,h3,List.append_nil]
theorem fold_f (k v:D):∀ (rs:List (List D)) (acc:List (List D)),(rs.map pr).Pairwise (fun a b=>a.1<b.1)→(fin k v (rs.foldl (stepL k v) (acc,false))).map pr=acc.map pr++putP (rs.map pr) k.int v.int true
 | [],acc,_=>by simp [fin,putP,lessK,moreK,pr,gd_cons_zero,gd_cons_succ]
 | r::rs,acc,h=>by
  rw [List.foldl_cons]
  rw [List.map_cons,List.pairwise_cons] at h
  have hgt:∀ b∈rs.map pr,(gd r 0).int<b.1:=h.1
  rcases Int.lt_or_le (gd r 0).int k.int with hlt | hge
  ·have e1:stepL k v (acc,false) r=(acc ++ [sub r 0 2],false):=by
    unfold stepL
    simp only [leI_f hlt,Bool.and_false,cond_false,Bool.or_false]
    rw [show ((gd r 0).int != k.int)=true from by simp; omega]
    rfl
   rw [e1,fold_f k v rs _ h.2]
   unfold putP lessK moreK
   rw [List.map_cons,List.filter_cons,List.filter_cons,if_pos (show decide ((pr r).1<k.int)=true from decide_eq_true hlt),if_neg (show ¬ decide (k.int<(pr r).1)=true from fun h=>by have:=of_decide_eq_true h; have:k.int<(gd r 0).int:=this; omega)]
   simp only [List.map_append,List.map_cons,List.map_nil,pr_sub,List.append_assoc,List.cons_append,List.nil_append,cond_true]
  ·have hall:∀ b∈rs.map pr,k.int<b.1:=fun b hb=>by have:=hgt b hb; omega
   obtain ⟨q1,q2⟩:=more_all hall
   unfold lessK at q2
   unfold moreK at q1
   have hne:((rs.map pr).filter fun a=>a.1 != k.int)=rs.map pr:=List.filter_eq_self.2 fun a ha=>by have:=hall a ha; simp; omega
   unfold putP lessK moreK
   rw [List.map_cons,List.filter_cons,List.filter_cons,q1,q2,if_neg (show ¬ decide ((pr r).1<k.int)=true from fun h=>by have:=of_decide_eq_true h; have:(gd r 0).int<k.int:=this; omega)]
   rcases Int.lt_or_eq_of_le hge with hlt | he
   ·have e1:stepL k v (acc,false) r=(acc ++ [[k,v]] ++ [sub r 0 2],true):=by
     unfold stepL
     simp only [leI_t hge,Bool.not_false,Bool.and_true,cond_true,Bool.or_true]
     rw [show ((gd r 0).int != k.int)=true from by simp; omega]
     rfl
    rw [e1,fold_t,if_pos (show decide (k.int<(pr r).1)=true from decide_eq_true hlt)]
    show (acc ++ [[k,v]] ++ [sub r 0 2]++_).map pr=_
    rw [List.map_append,ne_map,hne]
    simp only [List.map_append,List.map_cons,List.map_nil,pr_sub,List.append_assoc,List.cons_append,List.nil_append,cond_true]
    rfl
   ·have e1:stepL k v (acc,false) r=(acc ++ [[k,v]],true):=by
     unfold stepL
     simp only [leI_t hge,Bool.not_false,Bool.and_true,cond_true,Bool.or_true]
     rw [show ((gd r 0).int != k.int)=false from by simp; omega]
     rfl
    rw [e1,fold_t,if_neg (show ¬ decide (k.int<(pr r).1)=true from fun h=>by have:=of_decide_eq_true h; have:k.int<(gd r 0).int:=this; omega)]
    show (acc ++ [[k,v]]++_).map pr=_
    rw [List.map_append,ne_map,hne]
    simp only [List.map_append,List.map_cons,List.map_nil,List.append_assoc,List.cons_append,List.nil_append,cond_true]
    rfl
theorem l2_law {z:D} (h:SortedW z) (k v:D) (keep:Bool):prs (l2Raw z k v keep)=putP (prs z) k.int v.int keep:=by
 have hu:=h.upL
 unfold l2Raw accL
 rw [List.take_length]
 cases keep with
 | true=>exact fold_f k v z.rows [] hu.1
 | false =>
  rw [show (!false)=true from rfl,fold_t]
  show ([]++_:List (List D)).map pr=_
  rw [List.nil_append,ne_map]
  change (prs z).filter _=_
  rw [ne_split hu]
  simp [putP]
theorem norm_own {P:Program} {f:FuncId} {args:List T} {e:TypeId} {y y':D} (hrow:rowOf P e=some cellRow) (hl:prs y=prs y') (h:SoundFn P f args ⟨.one (.c (.own (0,0) true e)),[y]⟩):SoundFn P f args ⟨.one (.c (.own (0,0) true e)),[y']⟩:=by
 have h:=h.n rfl
 refine SoundFn.of rfl ⟨h.1,fun w prot vs ha hf=>(h.2 w prot vs ha hf).mono ?_⟩
 rintro ex w' ⟨v,g',rfl,hR⟩
 have hlen:y.rows.length=y'.rows.length:=by rw [← prs_len,← prs_len,hl]
 refine ⟨v,g',rfl,hR.below,?_,hR.prot,hR.fresh⟩
 obtain ⟨row,hr,ho⟩:=hR.val
 rw [hrow] at hr; injection hr with hr; subst hr
 refine ⟨cellRow,hrow,?_⟩
 have ho:OwnV P w' g' w.heap.size (0,0) true e cellRow y.rows v:=ho
 show OwnV P w' g' w.heap.size (0,0) true e cellRow y'.rows v
 rcases ho with ⟨h0,h1,h2⟩ | ⟨cap,arr,E,h1,h2,h3,h4,h5,h6,h7,h8,h9,h10,h11⟩
 ·refine .inl ⟨List.eq_nil_of_length_eq_zero (by rw [← hlen,h0]; rfl),h1,h2⟩
 ·refine .inr ⟨cap,arr,E,by rw [← hlen]; exact h1,by rw [← hlen]; exact h2,h3,h4,h5,h6,h7,by rw [← hlen]; exact h8,h9,h10,fun i j s hi hs=>?_⟩
  rw [← hlen] at hi
  obtain ⟨u,k1,k2⟩:=h11 i j s hi hs
  refine ⟨u,k1,?_⟩
  have he:pr (y.rows.getD i [])=pr (y'.rows.getD i []):=by
   have h1:(prs y)[i]?=(prs y')[i]?:=by rw [hl]
   unfold prs at h1
   rw [List.getElem?_map,List.getElem?_map,List.getElem?_eq_getElem hi,List.getElem?_eq_getElem (by omega)] at h1
   rw [List.getD_eq_getElem?_getD,List.getD_eq_getElem?_getD,List.getElem?_eq_getElem hi,List.getElem?_eq_getElem (by omega)]
   simpa using h1
  unfold pr at he
  injection he with e0 e1
  match j,hs with
  | 0,hs =>
   injection hs with hs
   subst hs
   have:=vd_int (k:=.i64) k2
   rw [this,e0]
   exact .int .i64 _
  | 1,hs =>
   injection hs with hs
   subst hs
   have:=vd_int (k:=.i64) k2
   rw [this,e1]
   exact .int .i64 _
def putD (z:D) (k v:Int):D:=prD (putP (prs z) k v (leI 0 v))
def i_putNE:Ent:=(295,e3 (sd (.sl 176)) ri ri fun p q r=>(⟨.one (.c (.own (0,0) true 176)),[putD (gd p 0) (gd q 0).int (gd r 0).int]⟩,cellsUp (gd p 0)&&inB (gd q 0).int 0 999&&leI (-1) (gd r 0).int))
theorem i_putN_ok:EntOk Tryz.prog i_putNE:=e3_ok fun p q r h=>by
 have h:(cellsUp (gd p 0)&&inB (gd q 0).int 0 999&&leI (-1) (gd r 0).int)=true:=h
 rw [Bool.and_eq_true] at h
 obtain ⟨h1,h2⟩:=h
 simp only [leI,decide_eq_true_eq] at h2
 refine norm_own row_cell ?_ (i_put_ok [⟨sd (.sl 176),p⟩,⟨ri,q⟩,⟨ri,r⟩] ⟨.one (.c (.own (0,0) true 176)),[putRaw (gd p 0) (gd q 0) (gd r 0)]⟩ ?_)
 ·rw [Bool.and_eq_true] at h1
  rw [put_law (up_sorted h1.1),putD,prs_prD]
  congr 1
  rw [Bool.eq_iff_iff]
  simp [leI]
  omega
 ·simp only [i_putE,e3,beq_self_eq_true,Bool.and_self,cond_true,h1]
def s_l2CellsNE:Ent:=(333,e4 (sd (.sl 176)) ri ri rb fun p q r s=>(⟨.one (.c (.own (0,0) true 176)),[prD (putP (prs (gd p 0)) (gd q 0).int (gd r 0).int (gd s 0).bool)]⟩,cellsUp (gd p 0)))
theorem s_l2CellsN_ok:EntOk Tryz.prog s_l2CellsNE:=e4_ok fun p q r s h=>by
 have h:cellsUp (gd p 0)=true:=h
 have hz:=up_sorted h
 have hl:=hz.len
 refine norm_own row_cell ?_ (s_l2Cells_ok [⟨sd (.sl 176),p⟩,⟨ri,q⟩,⟨ri,r⟩,⟨rb,s⟩] ⟨.one (.c (.own (0,0) true 176)),[l2Raw (gd p 0) (gd q 0) (gd r 0) (gd s 0).bool]⟩ ?_)
 ·rw [l2_law hz,prs_prD]
 ·have:leI ((gd p 0).rows.length:Int) 1000000=true:=leI_t (by omega)
  simp only [s_l2CellsE,e4,beq_self_eq_true,Bool.and_self,cond_true,this]
theorem putD_up {z:D} (h:cellsUp z=true) {k:Int} (hk:inB k 0 999=true) (v:Int):cellsUp (putD z k v)=true:=by
 simp only [inB,Bool.and_eq_true,decide_eq_true_eq] at hk
 rw [up_iff,putD,prs_prD]
 exact putP_up (up_iff.1 h) hk v _
end Go.Proofs.YtchceahcaaibcaaGreat
namespace Go.Proofs.YtchceahcaaibcaaGreat
set_option maxRecDepth 4096
set_option maxHeartbeats 1000000
abbrev i_LetterOkT:FuncId→List T→Option (T × Bool):=find [i_letterHasE,i_numRightE,i_hasE,i_RangeOkE,i_readsOkE,i_WritesOkE,i_StoreOkE,i_SharesOkE,i_votesE]
theorem i_LetterOkT_ok:CallOk Tryz.prog i_LetterOkT:=find_ok (fC ⟨i_letterHas_ok,fC ⟨i_numRight_ok,fC ⟨i_has_ok,fC ⟨i_RangeOk_ok,fC ⟨i_readsOk_ok,fC ⟨i_WritesOk_ok,fC ⟨i_StoreOk_ok,fC ⟨i_SharesOk_ok,fC ⟨i_votes_ok,fN⟩⟩⟩⟩⟩⟩⟩⟩⟩)
abbrev i_LetterOkK:List Nat:= [0,1,2,3,50,85]
noncomputable def i_LetterOks0 (N:Nat) (p:List D):Out:=bif ((gd p 13).rows.length:Int)==0 then bif !(votesAny (gd p 13) 1) then ob (!(votesAny (gd p 13) 2)) else ob false else ob false
noncomputable def i_LetterOks1 (N:Nat) (p:List D):Out:=bif hasB (i_letterHasF [(gd p 0)]) 83 then bif !(votesAny (gd p 13) 1) then ob (!(votesAny (gd p 13) 2)) else ob false else (i_LetterOks0 N p)
noncomputable def i_LetterOks2 (N:Nat) (p:List D):Out:=bif sharesOk (gd p 13) then nd (leI ((i_letterHasF [(gd p 0)]).length:Int) 100) (i_LetterOks1 N p) else ob false
noncomputable def i_LetterOks3 (N:Nat) (p:List D):Out:=bif hasB (i_letterHasF [(gd p 0)]) 108 then (i_LetterOks2 N p) else bif ((gd p 12).rows.length:Int)==0 then (i_LetterOks2 N p) else ob false
noncomputable def i_LetterOks4 (N:Nat) (p:List D):Out:=bif storeOk (gd p 12) then nd (leI ((i_letterHasF [(gd p 0)]).length:Int) 100) (i_LetterOks3 N p) else ob false
noncomputable def i_LetterOks5 (N:Nat) (p:List D):Out:=bif hasB (i_letterHasF [(gd p 0)]) 87 then (i_LetterOks4 N p) else bif ((gd p 11).rows.length:Int)==0 then (i_LetterOks4 N p) else ob false
noncomputable def i_LetterOks6 (N:Nat) (p:List D):Out:=bif writesOk (gd p 11) then nd (leI ((i_letterHasF [(gd p 0)]).length:Int) 100) (i_LetterOks5 N p) else ob false
noncomputable def i_LetterOks7 (N:Nat) (p:List D):Out:=bif hasB (i_letterHasF [(gd p 0)]) 101 then (i_LetterOks6 N p) else bif ((gd p 10).rows.length:Int)==0 then (i_LetterOks6 N p) else ob false
noncomputable def i_LetterOks8 (N:Nat) (p:List D):Out:=bif readsOk (gd p 10) then nd (leI ((i_letterHasF [(gd p 0)]).length:Int) 100) (i_LetterOks7 N p) else ob false
noncomputable def i_LetterOks9 (N:Nat) (p:List D):Out:=bif !(hasB (i_letterHasF [(gd p 0)]) 89) then bif (gd p 9).bool then ob false else (i_LetterOks8 N p) else (i_LetterOks8 N p)
noncomputable def i_LetterOks10 (N:Nat) (p:List D):Out:=bif (gd p 6).int != 0 then ob false else nd (leI ((i_letterHasF [(gd p 0)]).length:Int) 100) (i_LetterOks9 N p)
noncomputable def i_LetterOks11 (N:Nat) (p:List D):Out:=bif !(hasB (i_letterHasF [(gd p 0)]) 107) then bif (gd p 5).int != 0 then ob false else (i_LetterOks10 N p) else nd (leI ((i_letterHasF [(gd p 0)]).length:Int) 100) (i_LetterOks9 N p)
noncomputable def i_LetterOks12 (N:Nat) (p:List D):Out:=bif !(rangeOk (sub p 5 2)) then ob false else nd (leI ((i_letterHasF [(gd p 0)]).length:Int) 100) (i_LetterOks11 N p)
noncomputable def i_LetterOks13 (N:Nat) (p:List D):Out:=bif hasB (i_letterHasF [(gd p 0)]) 107 then (i_LetterOks12 N p) else nd (leI ((i_letterHasF [(gd p 0)]).length:Int) 100) (i_LetterOks11 N p)
noncomputable def i_LetterOks14 (N:Nat) (p:List D):Out:=bif !(numOk (hasB (i_letterHasF [(gd p 0)]) 99) (gd p 8).int 0 7) then ob false else nd (leI ((i_letterHasF [(gd p 0)]).length:Int) 100) (i_LetterOks13 N p)
noncomputable def i_LetterOks15 (N:Nat) (p:List D):Out:=bif !(numOk (hasB (i_letterHasF [(gd p 0)]) 78) (gd p 7).int 1 1000000) then ob false else nd (leI ((i_letterHasF [(gd p 0)]).length:Int) 100) (i_LetterOks14 N p)
noncomputable def i_LetterOks16 (N:Nat) (p:List D):Out:=bif !(numOk (hasB (i_letterHasF [(gd p 0)]) 84) (gd p 4).int 1 60) then ob false else nd (leI ((i_letterHasF [(gd p 0)]).length:Int) 100) (i_LetterOks15 N p)
noncomputable def i_LetterOks17 (N:Nat) (p:List D):Out:=bif !(numOk (hasB (i_letterHasF [(gd p 0)]) 82) (gd p 3).int 1 1000000000) then ob false else nd (leI ((i_letterHasF [(gd p 0)]).length:Int) 100) (i_LetterOks16 N p)
noncomputable def i_LetterOks18 (N:Nat) (p:List D):Out:=bif !(numOk (hasB (i_letterHasF [(gd p 0)]) 67) (gd p 2).int 0 5) then ob false else nd (leI ((i_letterHasF [(gd p 0)]).length:Int) 100) (i_LetterOks17 N p)
noncomputable def i_LetterOks19 (N:Nat) (p:List D):Out:=bif !(numOk (hasB (i_letterHasF [(gd p 0)]) 71) (gd p 1).int 0 3) then ob false else nd (leI ((i_letterHasF [(gd p 0)]).length:Int) 100) (i_LetterOks18 N p)
noncomputable def i_LetterOks20 (N:Nat) (p:List D):Out:=bif (i_letterHasF [(gd p 0)]) == [] then ob false else nd (leI ((i_letterHasF [(gd p 0)]).length:Int) 100) (i_LetterOks19 N p)
theorem i_LetterOk_ev (N:Nat) (p:List D):evFn Tryz.prog i_LetterOkT N i_LetterOkK Tryz.f71 rb [⟨ag rILetter,p⟩]=some (bo,(i_LetterOks20 N p)):=by kernel_rfl
def formI (k:Int):List UInt8:=i_letterHasF [.i k]
theorem letters_same (k:Int):((lettersS k).str == [])=(formI k == [])∧hasB (lettersS k).str 103=hasB (formI k) 71∧hasB (lettersS k).str 99=hasB (formI k) 67∧hasB (lettersS k).str 113=hasB (formI k) 82∧hasB (lettersS k).str 116=hasB (formI k) 84∧hasB (lettersS k).str 110=hasB (formI k) 78∧hasB (lettersS k).str 107=hasB (formI k) 99∧hasB (lettersS k).str 121=hasB (formI k) 89∧hasB (lettersS k).str 114=hasB (formI k) 107∧hasB (lettersS k).str 82=hasB (formI k) 101∧hasB (lettersS k).str 87=hasB (formI k) 87∧hasB (lettersS k).str 67=hasB (formI k) 108∧hasB (lettersS k).str 83=hasB (formI k) 83:=by
 by_cases h:1≤k∧k≤17
 ·have h17:k=1∨k=2∨k=3∨k=4∨k=5∨k=6∨k=7∨k=8∨k=9∨k=10∨k=11∨k=12∨k=13∨k=14∨k=15∨k=16∨k=17:=by omega
  rcases h17 with rfl | rfl | rfl | rfl | rfl | rfl | rfl | rfl | rfl | rfl | rfl | rfl | rfl | rfl | rfl | rfl | rfl <;> decide +kernel
 ·have h1:lettersS k=.s []:=by
   unfold lettersS
   rw [show inB k 1 17=false from by
    simp only [inB,Bool.and_eq_false_iff,decide_eq_false_iff_not]; omega]
   rfl
  have h2:formI k = []:=by
   have hn:∀ j:Int,1≤j→j≤17→(k==j)=false:=fun j a b=>beq_eq_false_iff_ne.2 (by omega)
   show i_letterHasF [.i k] = []
   unfold i_letterHasF
   simp only [gd_cons_zero,int_i,hn 1 (by omega) (by omega),hn 2 (by omega) (by omega),hn 3 (by omega) (by omega),hn 4 (by omega) (by omega),hn 5 (by omega) (by omega),hn 6 (by omega) (by omega),hn 7 (by omega) (by omega),hn 8 (by omega) (by omega),hn 9 (by omega) (by omega),hn 10 (by omega) (by omega),hn 11 (by omega) (by omega),hn 12 (by omega) (by omega),hn 13 (by omega) (by omega),hn 14 (by omega) (by omega),hn 15 (by omega) (by omega),hn 16 (by omega) (by omega),hn 17 (by omega) (by omega),cond_false]
  rw [h1,h2]
  exact ⟨rfl,rfl,rfl,rfl,rfl,rfl,rfl,rfl,rfl,rfl,rfl,rfl,rfl⟩
theorem form_len (k:Int):leI ((formI k).length:Int) 100=true:=by
 by_cases h:1≤k∧k≤17
 ·have h17:k=1∨k=2∨k=3∨k=4∨k=5∨k=6∨k=7∨k=8∨k=9∨k=10∨k=11∨k=12∨k=13∨k=14∨k=15∨k=16∨k=17:=by omega
  rcases h17 with rfl | rfl | rfl | rfl | rfl | rfl | rfl | rfl | rfl | rfl | rfl | rfl | rfl | rfl | rfl | rfl | rfl <;> rfl
 ·have h2:(formI k == [])=true:=by
   rw [← (letters_same k).1]
   unfold lettersS
   rw [show inB k 1 17=false from by
    simp only [inB,Bool.and_eq_false_iff,decide_eq_false_iff_not]; omega]
   rfl
  rw [eq_of_beq h2]; rfl
theorem letters_len (k:Int):leI ((lettersS k).str.length:Int) 100=true:=by
 by_cases h:1≤k∧k≤17
 ·have h17:k=1∨k=2∨k=3∨k=4∨k=5∨k=6∨k=7∨k=8∨k=9∨k=10∨k=11∨k=12∨k=13∨k=14∨k=15∨k=16∨k=17:=by omega
  rcases h17 with rfl | rfl | rfl | rfl | rfl | rfl | rfl | rfl | rfl | rfl | rfl | rfl | rfl | rfl | rfl | rfl | rfl <;> rfl
 ·unfold lettersS
  rw [show inB k 1 17=false from by
   simp only [inB,Bool.and_eq_false_iff,decide_eq_false_iff_not]; omega]
  rfl
def letterF (p:List D) (f:List UInt8):Bool:= !(f == [])&&(numOk (hasB f 71) (gd p 1).int 0 3&&(numOk (hasB f 67) (gd p 2).int 0 5&&(numOk (hasB f 82) (gd p 3).int 1 1000000000&&(numOk (hasB f 84) (gd p 4).int 1 60&&(numOk (hasB f 78) (gd p 7).int 1 1000000&&(numOk (hasB f 99) (gd p 8).int 0 7&&((bif hasB f 107 then rangeOk [gd p 5,gd p 6] else ((gd p 5).int==0)&&((gd p 6).int==0))&&((hasB f 89 || !(gd p 9).bool)&&(readsOk (gd p 10)&&((hasB f 101||(((gd p 10).rows.length:Int)==0))&&(writesOk (gd p 11)&&((hasB f 87||(((gd p 11).rows.length:Int)==0))&&(storeOk (gd p 12)&&((hasB f 108||(((gd p 12).rows.length:Int)==0))&&(sharesOk (gd p 13)&&((hasB f 83||(((gd p 13).rows.length:Int)==0))&&((!votesAny (gd p 13) 1 && !votesAny (gd p 13) 2))))))))))))))))))
def letterOk (p:List D):Bool:=letterF p (formI (gd p 0).int)
def i_LetterOkg0 (p:List D):Bool:=(((gd p 13).rows.length:Int)==0)&&(!votesAny (gd p 13) 1 && !votesAny (gd p 13) 2)
theorem i_LetterOkx0 (p:List D):i_LetterOks0 0 p=ob (i_LetterOkg0 p):=by
 unfold i_LetterOks0 i_LetterOkg0
 try simp only [show i_letterHasF [gd p 0]=formI (gd p 0).int from rfl,form_len (gd p 0).int,nd_true,bne_not,show rangeOk (sub p 5 2)=rangeOk [gd p 5,gd p 6] from rfl]
 generalize (((gd p 13).rows.length:Int)==0)=b0
 generalize votesAny (gd p 13) 1=b1
 generalize votesAny (gd p 13) 2=b2
 cases b0 <;> cases b1 <;> cases b2 <;> rfl
def i_LetterOkg1 (p:List D):Bool:=(hasB (formI (gd p 0).int) 83||(((gd p 13).rows.length:Int)==0))&&(!votesAny (gd p 13) 1 && !votesAny (gd p 13) 2)
theorem i_LetterOkx1 (p:List D):i_LetterOks1 0 p=ob (i_LetterOkg1 p):=by
 unfold i_LetterOks1 i_LetterOkg1
 rw [i_LetterOkx0]
 unfold i_LetterOkg0
 try simp only [show i_letterHasF [gd p 0]=formI (gd p 0).int from rfl,form_len (gd p 0).int,nd_true,bne_not,show rangeOk (sub p 5 2)=rangeOk [gd p 5,gd p 6] from rfl]
 generalize hasB (formI (gd p 0).int) 83=b0
 generalize (((gd p 13).rows.length:Int)==0)=b1
 generalize votesAny (gd p 13) 1=b2
 generalize votesAny (gd p 13) 2=b3
 cases b0 <;> cases b1 <;> cases b2 <;> cases b3 <;> rfl
def i_LetterOkg2 (p:List D):Bool:=sharesOk (gd p 13)&&i_LetterOkg1 p
theorem i_LetterOkx2 (p:List D):i_LetterOks2 0 p=ob (i_LetterOkg2 p):=by
 unfold i_LetterOks2 i_LetterOkg2
 try rw [i_LetterOkx1 p]
 generalize i_LetterOkg1 p=y
 try simp only [show i_letterHasF [gd p 0]=formI (gd p 0).int from rfl,form_len (gd p 0).int,nd_true,bne_not,show rangeOk (sub p 5 2)=rangeOk [gd p 5,gd p 6] from rfl]
 generalize sharesOk (gd p 13)=b0
 cases b0 <;> rfl
def i_LetterOkg3 (p:List D):Bool:=(hasB (formI (gd p 0).int) 108||(((gd p 12).rows.length:Int)==0))&&i_LetterOkg2 p
theorem i_LetterOkx3 (p:List D):i_LetterOks3 0 p=ob (i_LetterOkg3 p):=by
 unfold i_LetterOks3 i_LetterOkg3
 try rw [i_LetterOkx2 p]
 generalize i_LetterOkg2 p=y
 try simp only [show i_letterHasF [gd p 0]=formI (gd p 0).int from rfl,form_len (gd p 0).int,nd_true,bne_not,show rangeOk (sub p 5 2)=rangeOk [gd p 5,gd p 6] from rfl]
 generalize hasB (formI (gd p 0).int) 108=b0
 generalize (((gd p 12).rows.length:Int)==0)=b1
 cases b0 <;> cases b1 <;> rfl
def i_LetterOkg4 (p:List D):Bool:=storeOk (gd p 12)&&i_LetterOkg3 p
theorem i_LetterOkx4 (p:List D):i_LetterOks4 0 p=ob (i_LetterOkg4 p):=by
 unfold i_LetterOks4 i_LetterOkg4
 try rw [i_LetterOkx3 p]
 generalize i_LetterOkg3 p=y
 try simp only [show i_letterHasF [gd p 0]=formI (gd p 0).int from rfl,form_len (gd p 0).int,nd_true,bne_not,show rangeOk (sub p 5 2)=rangeOk [gd p 5,gd p 6] from rfl]
 generalize storeOk (gd p 12)=b0
 cases b0 <;> rfl
def i_LetterOkg5 (p:List D):Bool:=(hasB (formI (gd p 0).int) 87||(((gd p 11).rows.length:Int)==0))&&i_LetterOkg4 p
theorem i_LetterOkx5 (p:List D):i_LetterOks5 0 p=ob (i_LetterOkg5 p):=by
 unfold i_LetterOks5 i_LetterOkg5
 try rw [i_LetterOkx4 p]
 generalize i_LetterOkg4 p=y
 try simp only [show i_letterHasF [gd p 0]=formI (gd p 0).int from rfl,form_len (gd p 0).int,nd_true,bne_not,show rangeOk (sub p 5 2)=rangeOk [gd p 5,gd p 6] from rfl]
 generalize hasB (formI (gd p 0).int) 87=b0
 generalize (((gd p 11).rows.length:Int)==0)=b1
 cases b0 <;> cases b1 <;> rfl
def i_LetterOkg6 (p:List D):Bool:=writesOk (gd p 11)&&i_LetterOkg5 p
theorem i_LetterOkx6 (p:List D):i_LetterOks6 0 p=ob (i_LetterOkg6 p):=by
 unfold i_LetterOks6 i_LetterOkg6
 try rw [i_LetterOkx5 p]
 generalize i_LetterOkg5 p=y
 try simp only [show i_letterHasF [gd p 0]=formI (gd p 0).int from rfl,form_len (gd p 0).int,nd_true,bne_not,show rangeOk (sub p 5 2)=rangeOk [gd p 5,gd p 6] from rfl]
 generalize writesOk (gd p 11)=b0
 cases b0 <;> rfl
def i_LetterOkg7 (p:List D):Bool:=(hasB (formI (gd p 0).int) 101||(((gd p 10).rows.length:Int)==0))&&i_LetterOkg6 p
theorem i_LetterOkx7 (p:List D):i_LetterOks7 0 p=ob (i_LetterOkg7 p):=by
 unfold i_LetterOks7 i_LetterOkg7
 try rw [i_LetterOkx6 p]
 generalize i_LetterOkg6 p=y
 try simp only [show i_letterHasF [gd p 0]=formI (gd p 0).int from rfl,form_len (gd p 0).int,nd_true,bne_not,show rangeOk (sub p 5 2)=rangeOk [gd p 5,gd p 6] from rfl]
 generalize hasB (formI (gd p 0).int) 101=b0
 generalize (((gd p 10).rows.length:Int)==0)=b1
 cases b0 <;> cases b1 <;> rfl
def i_LetterOkg8 (p:List D):Bool:=readsOk (gd p 10)&&i_LetterOkg7 p
theorem i_LetterOkx8 (p:List D):i_LetterOks8 0 p=ob (i_LetterOkg8 p):=by
 unfold i_LetterOks8 i_LetterOkg8
 try rw [i_LetterOkx7 p]
 generalize i_LetterOkg7 p=y
 try simp only [show i_letterHasF [gd p 0]=formI (gd p 0).int from rfl,form_len (gd p 0).int,nd_true,bne_not,show rangeOk (sub p 5 2)=rangeOk [gd p 5,gd p 6] from rfl]
 generalize readsOk (gd p 10)=b0
 cases b0 <;> rfl
def i_LetterOkg9 (p:List D):Bool:=(hasB (formI (gd p 0).int) 89 || !(gd p 9).bool)&&i_LetterOkg8 p
theorem i_LetterOkx9 (p:List D):i_LetterOks9 0 p=ob (i_LetterOkg9 p):=by
 unfold i_LetterOks9 i_LetterOkg9
 try rw [i_LetterOkx8 p]
 generalize i_LetterOkg8 p=y
 try simp only [show i_letterHasF [gd p 0]=formI (gd p 0).int from rfl,form_len (gd p 0).int,nd_true,bne_not,show rangeOk (sub p 5 2)=rangeOk [gd p 5,gd p 6] from rfl]
 generalize hasB (formI (gd p 0).int) 89=b0
 generalize (gd p 9).bool=b1
 cases b0 <;> cases b1 <;> rfl
def i_LetterOkg10 (p:List D):Bool:=((gd p 6).int==0)&&i_LetterOkg9 p
theorem i_LetterOkx10 (p:List D):i_LetterOks10 0 p=ob (i_LetterOkg10 p):=by
 unfold i_LetterOks10 i_LetterOkg10
 try rw [i_LetterOkx9 p]
 generalize i_LetterOkg9 p=y
 try simp only [show i_letterHasF [gd p 0]=formI (gd p 0).int from rfl,form_len (gd p 0).int,nd_true,bne_not,show rangeOk (sub p 5 2)=rangeOk [gd p 5,gd p 6] from rfl]
 generalize ((gd p 6).int==0)=b0
 cases b0 <;> rfl
def i_LetterOkg11 (p:List D):Bool:=(bif hasB (formI (gd p 0).int) 107 then true else ((gd p 5).int==0)&&((gd p 6).int==0))&&i_LetterOkg9 p
theorem i_LetterOkx11 (p:List D):i_LetterOks11 0 p=ob (i_LetterOkg11 p):=by
 unfold i_LetterOks11 i_LetterOkg11
 rw [i_LetterOkx10]
 unfold i_LetterOkg10
 try rw [i_LetterOkx9 p]
 generalize i_LetterOkg9 p=y
 try simp only [show i_letterHasF [gd p 0]=formI (gd p 0).int from rfl,form_len (gd p 0).int,nd_true,bne_not,show rangeOk (sub p 5 2)=rangeOk [gd p 5,gd p 6] from rfl]
 generalize hasB (formI (gd p 0).int) 107=b0
 generalize ((gd p 5).int==0)=b1
 generalize ((gd p 6).int==0)=b2
 cases b0 <;> cases b1 <;> cases b2 <;> rfl
def i_LetterOkg12 (p:List D):Bool:=rangeOk [gd p 5,gd p 6]&&((bif hasB (formI (gd p 0).int) 107 then true else ((gd p 5).int==0)&&((gd p 6).int==0))&&i_LetterOkg9 p)
theorem i_LetterOkx12 (p:List D):i_LetterOks12 0 p=ob (i_LetterOkg12 p):=by
 unfold i_LetterOks12 i_LetterOkg12
 rw [i_LetterOkx11]
 unfold i_LetterOkg11
 try rw [i_LetterOkx9 p]
 generalize i_LetterOkg9 p=y
 try simp only [show i_letterHasF [gd p 0]=formI (gd p 0).int from rfl,form_len (gd p 0).int,nd_true,bne_not,show rangeOk (sub p 5 2)=rangeOk [gd p 5,gd p 6] from rfl]
 generalize rangeOk [gd p 5,gd p 6]=b0
 generalize hasB (formI (gd p 0).int) 107=b1
 generalize ((gd p 5).int==0)=b2
 generalize ((gd p 6).int==0)=b3
 cases b0 <;> cases b1 <;> cases b2 <;> cases b3 <;> rfl
def i_LetterOkg13 (p:List D):Bool:=(bif hasB (formI (gd p 0).int) 107 then rangeOk [gd p 5,gd p 6] else ((gd p 5).int==0)&&((gd p 6).int==0))&&i_LetterOkg9 p
theorem i_LetterOkx13 (p:List D):i_LetterOks13 0 p=ob (i_LetterOkg13 p):=by
 unfold i_LetterOks13 i_LetterOkg13
 rw [i_LetterOkx12,i_LetterOkx11]
 unfold i_LetterOkg12 i_LetterOkg11
 try rw [i_LetterOkx9 p]
 generalize i_LetterOkg9 p=y
 try simp only [show i_letterHasF [gd p 0]=formI (gd p 0).int from rfl,form_len (gd p 0).int,nd_true,bne_not,show rangeOk (sub p 5 2)=rangeOk [gd p 5,gd p 6] from rfl]
 generalize rangeOk [gd p 5,gd p 6]=b0
 generalize hasB (formI (gd p 0).int) 107=b1
 generalize ((gd p 5).int==0)=b2
 generalize ((gd p 6).int==0)=b3
 cases b0 <;> cases b1 <;> cases b2 <;> cases b3 <;> rfl
def i_LetterOkg14 (p:List D):Bool:=numOk (hasB (formI (gd p 0).int) 99) (gd p 8).int 0 7&&i_LetterOkg13 p
theorem i_LetterOkx14 (p:List D):i_LetterOks14 0 p=ob (i_LetterOkg14 p):=by
 unfold i_LetterOks14 i_LetterOkg14
 try rw [i_LetterOkx13 p]
 generalize i_LetterOkg13 p=y
 try simp only [show i_letterHasF [gd p 0]=formI (gd p 0).int from rfl,form_len (gd p 0).int,nd_true,bne_not,show rangeOk (sub p 5 2)=rangeOk [gd p 5,gd p 6] from rfl]
 generalize numOk (hasB (formI (gd p 0).int) 99) (gd p 8).int 0 7=b0
 cases b0 <;> rfl
def i_LetterOkg15 (p:List D):Bool:=numOk (hasB (formI (gd p 0).int) 78) (gd p 7).int 1 1000000&&i_LetterOkg14 p
theorem i_LetterOkx15 (p:List D):i_LetterOks15 0 p=ob (i_LetterOkg15 p):=by
 unfold i_LetterOks15 i_LetterOkg15
 try rw [i_LetterOkx14 p]
 generalize i_LetterOkg14 p=y
 try simp only [show i_letterHasF [gd p 0]=formI (gd p 0).int from rfl,form_len (gd p 0).int,nd_true,bne_not,show rangeOk (sub p 5 2)=rangeOk [gd p 5,gd p 6] from rfl]
 generalize numOk (hasB (formI (gd p 0).int) 78) (gd p 7).int 1 1000000=b0
 cases b0 <;> rfl
def i_LetterOkg16 (p:List D):Bool:=numOk (hasB (formI (gd p 0).int) 84) (gd p 4).int 1 60&&i_LetterOkg15 p
theorem i_LetterOkx16 (p:List D):i_LetterOks16 0 p=ob (i_LetterOkg16 p):=by
 unfold i_LetterOks16 i_LetterOkg16
 try rw [i_LetterOkx15 p]
 generalize i_LetterOkg15 p=y
 try simp only [show i_letterHasF [gd p 0]=formI (gd p 0).int from rfl,form_len (gd p 0).int,nd_true,bne_not,show rangeOk (sub p 5 2)=rangeOk [gd p 5,gd p 6] from rfl]
 generalize numOk (hasB (formI (gd p 0).int) 84) (gd p 4).int 1 60=b0
 cases b0 <;> rfl
def i_LetterOkg17 (p:List D):Bool:=numOk (hasB (formI (gd p 0).int) 82) (gd p 3).int 1 1000000000&&i_LetterOkg16 p
theorem i_LetterOkx17 (p:List D):i_LetterOks17 0 p=ob (i_LetterOkg17 p):=by
 unfold i_LetterOks17 i_LetterOkg17
 try rw [i_LetterOkx16 p]
 generalize i_LetterOkg16 p=y
 try simp only [show i_letterHasF [gd p 0]=formI (gd p 0).int from rfl,form_len (gd p 0).int,nd_true,bne_not,show rangeOk (sub p 5 2)=rangeOk [gd p 5,gd p 6] from rfl]
 generalize numOk (hasB (formI (gd p 0).int) 82) (gd p 3).int 1 1000000000=b0
 cases b0 <;> rfl
def i_LetterOkg18 (p:List D):Bool:=numOk (hasB (formI (gd p 0).int) 67) (gd p 2).int 0 5&&i_LetterOkg17 p
theorem i_LetterOkx18 (p:List D):i_LetterOks18 0 p=ob (i_LetterOkg18 p):=by
 unfold i_LetterOks18 i_LetterOkg18
 try rw [i_LetterOkx17 p]
 generalize i_LetterOkg17 p=y
 try simp only [show i_letterHasF [gd p 0]=formI (gd p 0).int from rfl,form_len (gd p 0).int,nd_true,bne_not,show rangeOk (sub p 5 2)=rangeOk [gd p 5,gd p 6] from rfl]
 generalize numOk (hasB (formI (gd p 0).int) 67) (gd p 2).int 0 5=b0
 cases b0 <;> rfl
def i_LetterOkg19 (p:List D):Bool:=numOk (hasB (formI (gd p 0).int) 71) (gd p 1).int 0 3&&i_LetterOkg18 p
theorem i_LetterOkx19 (p:List D):i_LetterOks19 0 p=ob (i_LetterOkg19 p):=by
 unfold i_LetterOks19 i_LetterOkg19
 try rw [i_LetterOkx18 p]
 generalize i_LetterOkg18 p=y
 try simp only [show i_letterHasF [gd p 0]=formI (gd p 0).int from rfl,form_len (gd p 0).int,nd_true,bne_not,show rangeOk (sub p 5 2)=rangeOk [gd p 5,gd p 6] from rfl]
 generalize numOk (hasB (formI (gd p 0).int) 71) (gd p 1).int 0 3=b0
 cases b0 <;> rfl
def i_LetterOkg20 (p:List D):Bool:= !((formI (gd p 0).int) == [])&&i_LetterOkg19 p
theorem i_LetterOkx20 (p:List D):i_LetterOks20 0 p=ob (i_LetterOkg20 p):=by
 unfold i_LetterOks20 i_LetterOkg20
 try rw [i_LetterOkx19 p]
 generalize i_LetterOkg19 p=y
 try simp only [show i_letterHasF [gd p 0]=formI (gd p 0).int from rfl,form_len (gd p 0).int,nd_true,bne_not,show rangeOk (sub p 5 2)=rangeOk [gd p 5,gd p 6] from rfl]
 generalize ((formI (gd p 0).int) == [])=b0
 cases b0 <;> rfl
def i_LetterOkE:Ent:=(71,e1 (ag rILetter) fun p=>(⟨rb,[.b (letterOk p)]⟩,true))
theorem i_LetterOk_ok:EntOk Tryz.prog i_LetterOkE:=e1_ok fun p h=>evFn_sound (N:=0) (ks:=i_LetterOkK) (key:=bo) i_LetterOkT_ok (enters Tryz.func71) Tryz.func71 fun hw=>by
 rw [i_LetterOk_ev]
 exact congrArg (fun x=>some (bo,x)) ((i_LetterOkx20 p).trans rfl)
abbrev s_LetterOkT:FuncId→List T→Option (T × Bool):=find [s_l16HasE,s_l4InE,s_l4NumE,s_l16RangeOkE,s_WritesOkE,s_StoreOkE,s_SharesOkE,s_RangeOkE,s_l14VotesE]
theorem s_LetterOkT_ok:CallOk Tryz.prog s_LetterOkT:=find_ok (fC ⟨s_l16Has_ok,fC ⟨s_l4In_ok,fC ⟨s_l4Num_ok,fC ⟨s_l16RangeOk_ok,fC ⟨s_WritesOk_ok,fC ⟨s_StoreOk_ok,fC ⟨s_SharesOk_ok,fC ⟨s_RangeOk_ok,fC ⟨s_l14Votes_ok,fN⟩⟩⟩⟩⟩⟩⟩⟩⟩)
abbrev s_LetterOkK:List Nat:= [0,1,2,3,4,41,64,89,155,160,169,1000041,1000064,1000089,1000155,1000160,1000169,3000004,3000006,3000008]
noncomputable def s_LetterOkL0 (N:Nat) (p:List D):List D→Out:=loopOf Tryz.prog s_LetterOkT N s_LetterOkK Tryz.f52 rb [⟨ag rILetter,p⟩] 0
theorem s_LetterOkR0 (N:Nat) (p:List D) (x0 x1 x2 x3 x4 x5 x6 x7 x8 x9 x10 x11 x12 x13 x14 x15 x16 x17 x18 x19 x20 x21 x22 x23 x24 x25 x26 x27 x28 x29 x30 x31:D):(s_LetterOkL0 N p) [x0,x1,x2,x3,x4,x5,x6,x7,x8,x9,x10,x11,x12,x13,x14,x15,x16,x17,x18,x19,x20,x21,x22,x23,x24,x25,x26,x27,x28,x29,x30,x31] =
 bif ltI x17.int (x28.rows.length:Int) then nd (inRange x17.int x28.rows.length) (bif !(rangeOk (sub (x28.rows.getD x17.int.toNat []) 0 2)) then ob false
 else nx [x0,x1,x2,x3,x4,x5,x6,x7,x8,x9,x10,x11,x12,x13,x14,x15,x16,.i (w64 (x17.int+1)),x18,x19,x20,x21,x22,x23,x24,x25,x26,x27,x28,x29,x30,x31])
 else ex 0 [x0,x1,x2,x3,x4,x5,x6,x7,x8,x9,x10,x11,x12,x13,x14,x15,x16,x17,x18,x19,x20,x21,x22,x23,x24,x25,x26,x27,x28,x29,x30,x31]:=by kernel_rfl
noncomputable def s_LetterOks0 (N:Nat) (p:List D):Out:=nd (leI ((lettersS (gd p 0).int).str.length:Int) 100) (nx [gd p 0,gd p 1,gd p 2,gd p 3,gd p 4,gd p 5,gd p 6,gd p 7,gd p 8,gd p 9,gd p 10,gd p 11,gd p 12,gd p 13,.i 0,.b false,lettersS (gd p 0).int,.b (!(hasB (lettersS (gd p 0).int).str 121)),gd p 0,gd p 1,gd p 2,gd p 3,gd p 4,gd p 5,gd p 6,gd p 7,gd p 8,gd p 9,gd p 10,gd p 11,gd p 12,gd p 13])
noncomputable def s_LetterOks1 (N:Nat) (p:List D):Out:=bif (gd p 9).bool then (s_LetterOks0 N p) else nx [gd p 0,gd p 1,gd p 2,gd p 3,gd p 4,gd p 5,gd p 6,gd p 7,gd p 8,gd p 9,gd p 10,gd p 11,gd p 12,gd p 13,.i 0,.b false,lettersS (gd p 0).int,.b false,gd p 0,gd p 1,gd p 2,gd p 3,gd p 4,gd p 5,gd p 6,gd p 7,gd p 8,gd p 9,gd p 10,gd p 11,gd p 12,gd p 13]
noncomputable def s_LetterOks2 (N:Nat) (p:List D):Out:=bif !(numOk (hasB (lettersS (gd p 0).int).str 107) (gd p 8).int 0 7) then nx [gd p 0,gd p 1,gd p 2,gd p 3,gd p 4,gd p 5,gd p 6,gd p 7,gd p 8,gd p 9,gd p 10,gd p 11,gd p 12,gd p 13,.i 0,.b false,lettersS (gd p 0).int,.b true,gd p 0,gd p 1,gd p 2,gd p 3,gd p 4,gd p 5,gd p 6,gd p 7,gd p 8,gd p 9,gd p 10,gd p 11,gd p 12,gd p 13] else (s_LetterOks1 N p)
noncomputable def s_LetterOks3 (N:Nat) (p:List D):Out:=bif !(numOk (hasB (lettersS (gd p 0).int).str 110) (gd p 7).int 1 1000000) then nx [gd p 0,gd p 1,gd p 2,gd p 3,gd p 4,gd p 5,gd p 6,gd p 7,gd p 8,gd p 9,gd p 10,gd p 11,gd p 12,gd p 13,.i 0,.b false,lettersS (gd p 0).int,.b true,gd p 0,gd p 1,gd p 2,gd p 3,gd p 4,gd p 5,gd p 6,gd p 7,gd p 8,gd p 9,gd p 10,gd p 11,gd p 12,gd p 13] else nd (leI ((lettersS (gd p 0).int).str.length:Int) 100) (s_LetterOks2 N p)
noncomputable def s_LetterOks4 (N:Nat) (p:List D) (r4:Out):Out:=bif (gd r4.pay 23).int != 0 then nx [gd r4.pay 0,gd r4.pay 1,gd r4.pay 2,gd r4.pay 3,gd r4.pay 4,gd r4.pay 5,gd r4.pay 6,gd r4.pay 7,gd r4.pay 8,gd r4.pay 9,gd r4.pay 10,gd r4.pay 11,gd r4.pay 12,gd r4.pay 13,gd r4.pay 14,gd r4.pay 15,gd r4.pay 16,.b true,gd r4.pay 18,gd r4.pay 19,gd r4.pay 20,gd r4.pay 21,gd r4.pay 22,gd r4.pay 23,gd r4.pay 24,gd r4.pay 25,gd r4.pay 26,gd r4.pay 27,gd r4.pay 28,gd r4.pay 29,gd r4.pay 30,gd r4.pay 31] else nx [gd r4.pay 0,gd r4.pay 1,gd r4.pay 2,gd r4.pay 3,gd r4.pay 4,gd r4.pay 5,gd r4.pay 6,gd r4.pay 7,gd r4.pay 8,gd r4.pay 9,gd r4.pay 10,gd r4.pay 11,gd r4.pay 12,gd r4.pay 13,gd r4.pay 14,gd r4.pay 15,gd r4.pay 16,.b ((gd r4.pay 24).int != 0),gd r4.pay 18,gd r4.pay 19,gd r4.pay 20,gd r4.pay 21,gd r4.pay 22,gd r4.pay 23,gd r4.pay 24,gd r4.pay 25,gd r4.pay 26,gd r4.pay 27,gd r4.pay 28,gd r4.pay 29,gd r4.pay 30,gd r4.pay 31]
noncomputable def s_LetterOks5 (N:Nat) (p:List D) (r4:Out):Out:=bif !(hasB (gd r4.pay 16).str 114) then (s_LetterOks4 N p r4) else nx [gd r4.pay 0,gd r4.pay 1,gd r4.pay 2,gd r4.pay 3,gd r4.pay 4,gd r4.pay 5,gd r4.pay 6,gd r4.pay 7,gd r4.pay 8,gd r4.pay 9,gd r4.pay 10,gd r4.pay 11,gd r4.pay 12,gd r4.pay 13,gd r4.pay 14,gd r4.pay 15,gd r4.pay 16,.b false,gd r4.pay 18,gd r4.pay 19,gd r4.pay 20,gd r4.pay 21,gd r4.pay 22,gd r4.pay 23,gd r4.pay 24,gd r4.pay 25,gd r4.pay 26,gd r4.pay 27,gd r4.pay 28,gd r4.pay 29,gd r4.pay 30,gd r4.pay 31]
noncomputable def s_LetterOks6 (N:Nat) (p:List D) (r4:Out):Out:=bif !(rangeOk [(gd r4.pay 23),(gd r4.pay 24)]) then nx [gd r4.pay 0,gd r4.pay 1,gd r4.pay 2,gd r4.pay 3,gd r4.pay 4,gd r4.pay 5,gd r4.pay 6,gd r4.pay 7,gd r4.pay 8,gd r4.pay 9,gd r4.pay 10,gd r4.pay 11,gd r4.pay 12,gd r4.pay 13,gd r4.pay 14,gd r4.pay 15,gd r4.pay 16,.b true,gd r4.pay 18,gd r4.pay 19,gd r4.pay 20,gd r4.pay 21,gd r4.pay 22,gd r4.pay 23,gd r4.pay 24,gd r4.pay 25,gd r4.pay 26,gd r4.pay 27,gd r4.pay 28,gd r4.pay 29,gd r4.pay 30,gd r4.pay 31] else nd (leI ((gd r4.pay 16).str.length:Int) 100) (s_LetterOks5 N p r4)
noncomputable def s_LetterOks7 (N:Nat) (p:List D) (r4:Out):Out:=bif hasB (gd r4.pay 16).str 114 then (s_LetterOks6 N p r4) else nd (leI ((gd r4.pay 16).str.length:Int) 100) (s_LetterOks5 N p r4)
noncomputable def s_LetterOks8 (N:Nat) (p:List D) (r6:Out):Out:=bif !(hasB (gd r6.pay 16).str 83) then nx [gd r6.pay 0,gd r6.pay 1,gd r6.pay 2,gd r6.pay 3,gd r6.pay 4,gd r6.pay 5,gd r6.pay 6,gd r6.pay 7,gd r6.pay 8,gd r6.pay 9,gd r6.pay 10,gd r6.pay 11,gd r6.pay 12,gd r6.pay 13,gd r6.pay 14,gd r6.pay 15,gd r6.pay 16,.b (ltI 0 ((gd r6.pay 31).rows.length:Int)),gd r6.pay 18,gd r6.pay 19,gd r6.pay 20,gd r6.pay 21,gd r6.pay 22,gd r6.pay 23,gd r6.pay 24,gd r6.pay 25,gd r6.pay 26,gd r6.pay 27,gd r6.pay 28,gd r6.pay 29,gd r6.pay 30,gd r6.pay 31] else nx [gd r6.pay 0,gd r6.pay 1,gd r6.pay 2,gd r6.pay 3,gd r6.pay 4,gd r6.pay 5,gd r6.pay 6,gd r6.pay 7,gd r6.pay 8,gd r6.pay 9,gd r6.pay 10,gd r6.pay 11,gd r6.pay 12,gd r6.pay 13,gd r6.pay 14,gd r6.pay 15,gd r6.pay 16,.b false,gd r6.pay 18,gd r6.pay 19,gd r6.pay 20,gd r6.pay 21,gd r6.pay 22,gd r6.pay 23,gd r6.pay 24,gd r6.pay 25,gd r6.pay 26,gd r6.pay 27,gd r6.pay 28,gd r6.pay 29,gd r6.pay 30,gd r6.pay 31]
noncomputable def s_LetterOks9 (N:Nat) (p:List D) (r6:Out):Out:=bif !(sharesOk (gd r6.pay 31)) then nx [gd r6.pay 0,gd r6.pay 1,gd r6.pay 2,gd r6.pay 3,gd r6.pay 4,gd r6.pay 5,gd r6.pay 6,gd r6.pay 7,gd r6.pay 8,gd r6.pay 9,gd r6.pay 10,gd r6.pay 11,gd r6.pay 12,gd r6.pay 13,gd r6.pay 14,gd r6.pay 15,gd r6.pay 16,.b true,gd r6.pay 18,gd r6.pay 19,gd r6.pay 20,gd r6.pay 21,gd r6.pay 22,gd r6.pay 23,gd r6.pay 24,gd r6.pay 25,gd r6.pay 26,gd r6.pay 27,gd r6.pay 28,gd r6.pay 29,gd r6.pay 30,gd r6.pay 31] else nd (leI ((gd r6.pay 16).str.length:Int) 100) (s_LetterOks8 N p r6)
noncomputable def s_LetterOks10 (N:Nat) (p:List D) (r6:Out):Out:=bif ltI 0 ((gd r6.pay 30).rows.length:Int) then nx [gd r6.pay 0,gd r6.pay 1,gd r6.pay 2,gd r6.pay 3,gd r6.pay 4,gd r6.pay 5,gd r6.pay 6,gd r6.pay 7,gd r6.pay 8,gd r6.pay 9,gd r6.pay 10,gd r6.pay 11,gd r6.pay 12,gd r6.pay 13,gd r6.pay 14,gd r6.pay 15,gd r6.pay 16,.b true,gd r6.pay 18,gd r6.pay 19,gd r6.pay 20,gd r6.pay 21,gd r6.pay 22,gd r6.pay 23,gd r6.pay 24,gd r6.pay 25,gd r6.pay 26,gd r6.pay 27,gd r6.pay 28,gd r6.pay 29,gd r6.pay 30,gd r6.pay 31] else (s_LetterOks9 N p r6)
noncomputable def s_LetterOks11 (N:Nat) (p:List D) (r6:Out):Out:=nd (leI ((gd r6.pay 16).str.length:Int) 100) (bif !(hasB (gd r6.pay 16).str 67) then (s_LetterOks10 N p r6) else (s_LetterOks9 N p r6))
noncomputable def s_LetterOks12 (N:Nat) (p:List D) (r6:Out):Out:=bif !(storeOk (gd r6.pay 30)) then nx [gd r6.pay 0,gd r6.pay 1,gd r6.pay 2,gd r6.pay 3,gd r6.pay 4,gd r6.pay 5,gd r6.pay 6,gd r6.pay 7,gd r6.pay 8,gd r6.pay 9,gd r6.pay 10,gd r6.pay 11,gd r6.pay 12,gd r6.pay 13,gd r6.pay 14,gd r6.pay 15,gd r6.pay 16,.b true,gd r6.pay 18,gd r6.pay 19,gd r6.pay 20,gd r6.pay 21,gd r6.pay 22,gd r6.pay 23,gd r6.pay 24,gd r6.pay 25,gd r6.pay 26,gd r6.pay 27,gd r6.pay 28,gd r6.pay 29,gd r6.pay 30,gd r6.pay 31] else (s_LetterOks11 N p r6)
noncomputable def s_LetterOks13 (N:Nat) (p:List D) (r6:Out):Out:=bif ltI 0 ((gd r6.pay 29).rows.length:Int) then nx [gd r6.pay 0,gd r6.pay 1,gd r6.pay 2,gd r6.pay 3,gd r6.pay 4,gd r6.pay 5,gd r6.pay 6,gd r6.pay 7,gd r6.pay 8,gd r6.pay 9,gd r6.pay 10,gd r6.pay 11,gd r6.pay 12,gd r6.pay 13,gd r6.pay 14,gd r6.pay 15,gd r6.pay 16,.b true,gd r6.pay 18,gd r6.pay 19,gd r6.pay 20,gd r6.pay 21,gd r6.pay 22,gd r6.pay 23,gd r6.pay 24,gd r6.pay 25,gd r6.pay 26,gd r6.pay 27,gd r6.pay 28,gd r6.pay 29,gd r6.pay 30,gd r6.pay 31] else (s_LetterOks12 N p r6)
noncomputable def s_LetterOks14 (N:Nat) (p:List D) (r6:Out):Out:=nd (leI ((gd r6.pay 16).str.length:Int) 100) (bif !(hasB (gd r6.pay 16).str 87) then (s_LetterOks13 N p r6) else (s_LetterOks12 N p r6))
noncomputable def s_LetterOks15 (N:Nat) (p:List D) (r6:Out):Out:=bif !(writesOk (gd r6.pay 29)) then nx [gd r6.pay 0,gd r6.pay 1,gd r6.pay 2,gd r6.pay 3,gd r6.pay 4,gd r6.pay 5,gd r6.pay 6,gd r6.pay 7,gd r6.pay 8,gd r6.pay 9,gd r6.pay 10,gd r6.pay 11,gd r6.pay 12,gd r6.pay 13,gd r6.pay 14,gd r6.pay 15,gd r6.pay 16,.b true,gd r6.pay 18,gd r6.pay 19,gd r6.pay 20,gd r6.pay 21,gd r6.pay 22,gd r6.pay 23,gd r6.pay 24,gd r6.pay 25,gd r6.pay 26,gd r6.pay 27,gd r6.pay 28,gd r6.pay 29,gd r6.pay 30,gd r6.pay 31] else (s_LetterOks14 N p r6)
noncomputable def s_LetterOks16 (N:Nat) (p:List D) (r6:Out):Out:=bif ltI 0 ((gd r6.pay 28).rows.length:Int) then nx [gd r6.pay 0,gd r6.pay 1,gd r6.pay 2,gd r6.pay 3,gd r6.pay 4,gd r6.pay 5,gd r6.pay 6,gd r6.pay 7,gd r6.pay 8,gd r6.pay 9,gd r6.pay 10,gd r6.pay 11,gd r6.pay 12,gd r6.pay 13,gd r6.pay 14,gd r6.pay 15,gd r6.pay 16,.b true,gd r6.pay 18,gd r6.pay 19,gd r6.pay 20,gd r6.pay 21,gd r6.pay 22,gd r6.pay 23,gd r6.pay 24,gd r6.pay 25,gd r6.pay 26,gd r6.pay 27,gd r6.pay 28,gd r6.pay 29,gd r6.pay 30,gd r6.pay 31] else (s_LetterOks15 N p r6)
noncomputable def s_LetterOks17 (N:Nat) (p:List D) (r6:Out):Out:=nd (leI ((gd r6.pay 16).str.length:Int) 100) (bif !(hasB (gd r6.pay 16).str 82) then (s_LetterOks16 N p r6) else (s_LetterOks15 N p r6))
noncomputable def s_LetterOks18 (N:Nat) (p:List D) (r6:Out):Out:=bif ltI 16 ((gd r6.pay 28).rows.length:Int) then nx [gd r6.pay 0,gd r6.pay 1,gd r6.pay 2,gd r6.pay 3,gd r6.pay 4,gd r6.pay 5,gd r6.pay 6,gd r6.pay 7,gd r6.pay 8,gd r6.pay 9,gd r6.pay 10,gd r6.pay 11,gd r6.pay 12,gd r6.pay 13,gd r6.pay 14,gd r6.pay 15,gd r6.pay 16,.b true,gd r6.pay 18,gd r6.pay 19,gd r6.pay 20,gd r6.pay 21,gd r6.pay 22,gd r6.pay 23,gd r6.pay 24,gd r6.pay 25,gd r6.pay 26,gd r6.pay 27,gd r6.pay 28,gd r6.pay 29,gd r6.pay 30,gd r6.pay 31] else (s_LetterOks17 N p r6)
noncomputable def s_LetterOks19 (N:Nat) (p:List D) (o0:Out):Out:=bif o0.code==1 then some (1,o0.pay) else nd (o0.code==2) (ob ((votesN (gd o0.pay 31) 0)==((gd o0.pay 31).rows.length:Int)))
noncomputable def s_LetterOks20 (N:Nat) (p:List D) (r8:Out):Out:=let o0:Out:=iter (s_LetterOkL0 N p) N [gd r8.pay 0,gd r8.pay 1,gd r8.pay 2,gd r8.pay 3,gd r8.pay 4,gd r8.pay 5,gd r8.pay 6,gd r8.pay 7,gd r8.pay 8,gd r8.pay 9,gd r8.pay 10,gd r8.pay 11,gd r8.pay 12,gd r8.pay 13,gd r8.pay 14,gd r8.pay 15,gd r8.pay 16,.i 0,gd r8.pay 18,gd r8.pay 19,gd r8.pay 20,gd r8.pay 21,gd r8.pay 22,gd r8.pay 23,gd r8.pay 24,gd r8.pay 25,gd r8.pay 26,gd r8.pay 27,gd r8.pay 28,gd r8.pay 29,gd r8.pay 30,gd r8.pay 31]; nd o0.isSome (s_LetterOks19 N p o0)
noncomputable def s_LetterOks21 (N:Nat) (p:List D) (r6:Out):Out:=let r8:Out:=(s_LetterOks18 N p r6); nd r8.isSome (bif (gd r8.pay 17).bool then ob false else (s_LetterOks20 N p r8))
noncomputable def s_LetterOks22 (N:Nat) (p:List D) (r4:Out):Out:=let r6:Out:=nd (leI ((gd r4.pay 16).str.length:Int) 100) (s_LetterOks7 N p r4); nd r6.isSome (bif (gd r6.pay 17).bool then ob false else (s_LetterOks21 N p r6))
noncomputable def s_LetterOks23 (N:Nat) (p:List D):Out:=let r4:Out:=nd (leI ((lettersS (gd p 0).int).str.length:Int) 100) (s_LetterOks3 N p); nd r4.isSome (bif (gd r4.pay 17).bool then ob false else (s_LetterOks22 N p r4))
noncomputable def s_LetterOks24 (N:Nat) (p:List D):Out:=bif !(numOk (hasB (lettersS (gd p 0).int).str 116) (gd p 4).int 1 60) then ob false else (s_LetterOks23 N p)
noncomputable def s_LetterOks25 (N:Nat) (p:List D):Out:=bif !(numOk (hasB (lettersS (gd p 0).int).str 113) (gd p 3).int 1 1000000000) then ob false else nd (leI ((lettersS (gd p 0).int).str.length:Int) 100) (s_LetterOks24 N p)
noncomputable def s_LetterOks26 (N:Nat) (p:List D):Out:=bif !(numOk (hasB (lettersS (gd p 0).int).str 99) (gd p 2).int 0 5) then ob false else nd (leI ((lettersS (gd p 0).int).str.length:Int) 100) (s_LetterOks25 N p)
noncomputable def s_LetterOks27 (N:Nat) (p:List D):Out:=bif !(numOk (hasB (lettersS (gd p 0).int).str 103) (gd p 1).int 0 3) then ob false else nd (leI ((lettersS (gd p 0).int).str.length:Int) 100) (s_LetterOks26 N p)
noncomputable def s_LetterOks28 (N:Nat) (p:List D):Out:=bif (lettersS (gd p 0).int).str == [] then ob false else nd (leI ((lettersS (gd p 0).int).str.length:Int) 100) (s_LetterOks27 N p)
theorem s_LetterOk_ev (N:Nat) (p:List D):evFn Tryz.prog s_LetterOkT N s_LetterOkK Tryz.f52 rb [⟨ag rILetter,p⟩]=some (bo,(s_LetterOks28 N p)):=by kernel_rfl
def letterG (p:List D) (f:List UInt8):Bool:= !(f == [])&&(numOk (hasB f 71) (gd p 1).int 0 3&&(numOk (hasB f 67) (gd p 2).int 0 5&&(numOk (hasB f 82) (gd p 3).int 1 1000000000&&(numOk (hasB f 84) (gd p 4).int 1 60&&(numOk (hasB f 78) (gd p 7).int 1 1000000&&(numOk (hasB f 99) (gd p 8).int 0 7&&((hasB f 89 || !(gd p 9).bool)&&((bif hasB f 107 then rangeOk [gd p 5,gd p 6] else ((gd p 5).int==0)&&((gd p 6).int==0))&&(decide (((gd p 10).rows.length:Int)≤16)&&((hasB f 101||(((gd p 10).rows.length:Int)==0))&&(writesOk (gd p 11)&&((hasB f 87||(((gd p 11).rows.length:Int)==0))&&(storeOk (gd p 12)&&((hasB f 108||(((gd p 12).rows.length:Int)==0))&&(sharesOk (gd p 13)&&((hasB f 83||(((gd p 13).rows.length:Int)==0))&&((((List.range (gd p 10).rows.length).all fun m=>rangeOk (sub ((gd p 10).rows.getD m []) 0 2))&&((votesN (gd p 13) 0:Int)==((gd p 13).rows.length:Int))))))))))))))))))))
theorem lt_zero (n:Nat):ltI 0 (n:Int) = !((n:Int)==0):=by
 rw [Bool.eq_iff_iff]; simp only [ltI,decide_eq_true_eq,Bool.not_eq_true',beq_eq_false_iff_ne,ne_eq]; omega
theorem lt_16 (n:Nat):ltI 16 (n:Int) = !decide ((n:Int)≤16):=by
 rw [Bool.eq_iff_iff]; simp only [ltI,decide_eq_true_eq,Bool.not_eq_true',decide_eq_false_iff_not]; omega
theorem votesN_all0 {z:D} (h:sharesOk z=true):((votesN z 0:Int)==z.rows.length)=(!votesAny z 1 && !votesAny z 2):=by
 have:=cnt_all (fun k=>(gd (sub (z.rows.getD k []) 0 4) 3).int==0) z.rows.length 0
 simp only [Nat.zero_add] at this
 rw [show ((votesN z 0:Int)==z.rows.length)=decide (votesN z 0=z.rows.length) from by
  by_cases e:votesN z 0=z.rows.length
  ·rw [decide_eq_true e]; exact beq_iff_eq.2 (by omega)
  ·rw [decide_eq_false e]; exact beq_eq_false_iff_ne.2 (by omega)]
 rw [show decide (votesN z 0=z.rows.length)=_ from this]
 have hs:∀ k,k<z.rows.length→inB (gd (sub (z.rows.getD k []) 0 4) 3).int 0 2=true:=fun k hk=>by
  simp only [sharesOk,Bool.and_eq_true,List.all_eq_true] at h
  have:=h.2 k (List.mem_range.2 hk)
  simp only [shareAt,Bool.and_eq_true] at this
  exact this.2.2.2.2
 rw [Bool.eq_iff_iff]
 simp only [votesAny,anyS,Bool.and_eq_true,Bool.not_eq_true',List.all_eq_true,List.any_eq_false,List.mem_range,beq_iff_eq]
 constructor
 ·intro h1
  exact ⟨fun k hk e=>absurd (e.symm.trans (h1 k hk)) (by decide),fun k hk e=>absurd (e.symm.trans (h1 k hk)) (by decide)⟩
 ·rintro ⟨h1,h2⟩ k hk
  have:=hs k hk
  simp only [inB,Bool.and_eq_true,decide_eq_true_eq] at this
  have n0:=h1 k hk
  have n2:=h2 k hk
  omega
theorem letter_same (p:List D) (f:List UInt8):letterG p f=letterF p f:=by
 unfold letterG letterF readsOk
 rw [reads_all]
 refine congrArg (and _) (congrArg (and _) (congrArg (and _) (congrArg (and _) (congrArg (and _) (congrArg (and _) (congrArg (and _) ?_))))))
 generalize (hasB f 89 || !(gd p 9).bool)=a
 generalize (bif hasB f 107 then rangeOk [gd p 5,gd p 6] else ((gd p 5).int==0)&&((gd p 6).int==0))=b
 generalize decide (((gd p 10).rows.length:Int)≤16)=c
 generalize (hasB f 101||(((gd p 10).rows.length:Int)==0))=d
 generalize writesOk (gd p 11)=e
 generalize (hasB f 87||(((gd p 11).rows.length:Int)==0))=g
 generalize storeOk (gd p 12)=m
 generalize (hasB f 108||(((gd p 12).rows.length:Int)==0))=n
 cases hs:sharesOk (gd p 13)
 ·simp only [Bool.and_false,Bool.false_and]
 ·rw [votesN_all0 hs]
  generalize (hasB f 83||(((gd p 13).rows.length:Int)==0))=o
  generalize (!votesAny (gd p 13) 1 && !votesAny (gd p 13) 2)=v
  generalize ((List.range (gd p 10).rows.length).all fun m=>rangeOk (sub ((gd p 10).rows.getD m []) 0 2))=w
  cases a
  ·simp only [Bool.false_and,Bool.and_false]
  ·cases b
   ·simp only [Bool.false_and,Bool.and_false]
   ·cases c
    ·simp only [Bool.false_and,Bool.and_false]
    ·cases w
     ·simp only [Bool.false_and,Bool.and_false]
     ·simp only [Bool.true_and,Bool.and_true]
def PX (p:List D) (b:Bool):List D:= [gd p 0,gd p 1,gd p 2,gd p 3,gd p 4,gd p 5,gd p 6,gd p 7,gd p 8,gd p 9,gd p 10,gd p 11,gd p 12,gd p 13,.i 0,.b false,lettersS (gd p 0).int,.b b,gd p 0,gd p 1,gd p 2,gd p 3,gd p 4,gd p 5,gd p 6,gd p 7,gd p 8,gd p 9,gd p 10,gd p 11,gd p 12,gd p 13]
theorem nx_and (p:List D) (a g:Bool):(bif !a then nx (PX p true) else nx (PX p (!g)))=nx (PX p (!(a&&g))):=by cases a <;> rfl
theorem nx_or (p:List D) (h g:Bool) (n:Nat):(bif !h then (bif ltI 0 (n:Int) then nx (PX p true) else nx (PX p (!g))) else nx (PX p (!g)))=nx (PX p (!((h||((n:Int)==0))&&g))):=by
 rw [lt_zero]
 cases h <;> cases ((n:Int)==0) <;> rfl
theorem ob_and (a g:Bool):(bif !a then ob false else ob g)=ob (a&&g):=by cases a <;> rfl
def s_LetterOkg1 (p:List D):Bool:=hasB (lettersS (gd p 0).int).str 121 || !(gd p 9).bool
theorem s_LetterOkx1 (p:List D):s_LetterOks1 17 p=nx (PX p (!s_LetterOkg1 p)):=by
 rw [show s_LetterOks1 17 p=(bif (gd p 9).bool then nd (leI (((lettersS (gd p 0).int).str.length:Int)) 100) (nx (PX p (!(hasB (lettersS (gd p 0).int).str 121)))) else nx (PX p false)) from by kernel_rfl,letters_len,nd_true]
 unfold s_LetterOkg1
 cases (gd p 9).bool <;> cases hasB (lettersS (gd p 0).int).str 121 <;> rfl
def s_LetterOkg2 (p:List D):Bool:=numOk (hasB (lettersS (gd p 0).int).str 107) (gd p 8).int 0 7&&s_LetterOkg1 p
theorem s_LetterOkx2 (p:List D):s_LetterOks2 17 p=nx (PX p (!s_LetterOkg2 p)):=by
 rw [show s_LetterOks2 17 p=(bif !(numOk (hasB (lettersS (gd p 0).int).str 107) (gd p 8).int 0 7) then nx (PX p true) else s_LetterOks1 17 p) from by kernel_rfl,s_LetterOkx1]
 exact nx_and p _ _
def s_LetterOkg3 (p:List D):Bool:=numOk (hasB (lettersS (gd p 0).int).str 110) (gd p 7).int 1 1000000&&s_LetterOkg2 p
theorem s_LetterOkx3 (p:List D):s_LetterOks3 17 p=nx (PX p (!s_LetterOkg3 p)):=by
 rw [show s_LetterOks3 17 p=(bif !(numOk (hasB (lettersS (gd p 0).int).str 110) (gd p 7).int 1 1000000) then nx (PX p true) else nd (leI (((lettersS (gd p 0).int).str.length:Int)) 100) (s_LetterOks2 17 p)) from by kernel_rfl,s_LetterOkx2,letters_len,nd_true]
 exact nx_and p _ _
def s_LetterOkg5 (p:List D):Bool:=hasB (lettersS (gd p 0).int).str 114||(((gd p 5).int==0)&&((gd p 6).int==0))
theorem s_LetterOkx5 (p:List D) (b:Bool):s_LetterOks5 17 p (nx (PX p b))=nx (PX p (!s_LetterOkg5 p)):=by
 rw [show s_LetterOks5 17 p (nx (PX p b))=(bif !(hasB (lettersS (gd p 0).int).str 114) then (bif (gd p 5).int != 0 then nx (PX p true) else nx (PX p ((gd p 6).int != 0))) else nx (PX p false)) from by kernel_rfl,bne_not,bne_not]
 unfold s_LetterOkg5
 cases hasB (lettersS (gd p 0).int).str 114 <;> cases ((gd p 5).int==0) <;> cases ((gd p 6).int==0) <;> rfl
def s_LetterOkg6 (p:List D):Bool:=rangeOk [gd p 5,gd p 6]&&s_LetterOkg5 p
theorem s_LetterOkx6 (p:List D) (b:Bool):s_LetterOks6 17 p (nx (PX p b))=nx (PX p (!s_LetterOkg6 p)):=by
 rw [show s_LetterOks6 17 p (nx (PX p b))=(bif !(rangeOk [gd p 5,gd p 6]) then nx (PX p true) else nd (leI (((lettersS (gd p 0).int).str.length:Int)) 100) (s_LetterOks5 17 p (nx (PX p b)))) from by kernel_rfl,s_LetterOkx5,letters_len,nd_true]
 exact nx_and p _ _
def s_LetterOkg7 (p:List D):Bool:=bif hasB (lettersS (gd p 0).int).str 114 then s_LetterOkg6 p else s_LetterOkg5 p
theorem s_LetterOkx7 (p:List D) (b:Bool):s_LetterOks7 17 p (nx (PX p b))=nx (PX p (!s_LetterOkg7 p)):=by
 rw [show s_LetterOks7 17 p (nx (PX p b))=(bif hasB (lettersS (gd p 0).int).str 114 then s_LetterOks6 17 p (nx (PX p b)) else nd (leI (((lettersS (gd p 0).int).str.length:Int)) 100) (s_LetterOks5 17 p (nx (PX p b)))) from by kernel_rfl,s_LetterOkx6,s_LetterOkx5,letters_len,nd_true]
 unfold s_LetterOkg7
 cases hasB (lettersS (gd p 0).int).str 114 <;> rfl
def s_LetterOkg8 (p:List D):Bool:=hasB (lettersS (gd p 0).int).str 83||(((gd p 13).rows.length:Int)==0)
theorem s_LetterOkx8 (p:List D) (b:Bool):s_LetterOks8 17 p (nx (PX p b))=nx (PX p (!s_LetterOkg8 p)):=by
 rw [show s_LetterOks8 17 p (nx (PX p b))=(bif !(hasB (lettersS (gd p 0).int).str 83) then nx (PX p (ltI 0 ((gd p 13).rows.length:Int))) else nx (PX p false)) from by kernel_rfl,lt_zero]
 unfold s_LetterOkg8
 cases hasB (lettersS (gd p 0).int).str 83 <;> cases (((gd p 13).rows.length:Int)==0) <;> rfl
def s_LetterOkg9 (p:List D):Bool:=sharesOk (gd p 13)&&s_LetterOkg8 p
theorem s_LetterOkx9 (p:List D) (b:Bool):s_LetterOks9 17 p (nx (PX p b))=nx (PX p (!s_LetterOkg9 p)):=by
 rw [show s_LetterOks9 17 p (nx (PX p b))=(bif !(sharesOk (gd p 13)) then nx (PX p true) else nd (leI (((lettersS (gd p 0).int).str.length:Int)) 100) (s_LetterOks8 17 p (nx (PX p b)))) from by kernel_rfl,s_LetterOkx8,letters_len,nd_true]
 exact nx_and p _ _
def s_LetterOkg11 (p:List D):Bool:=(hasB (lettersS (gd p 0).int).str 67||(((gd p 12).rows.length:Int)==0))&&s_LetterOkg9 p
theorem s_LetterOkx11 (p:List D) (b:Bool):s_LetterOks11 17 p (nx (PX p b))=nx (PX p (!s_LetterOkg11 p)):=by
 rw [show s_LetterOks11 17 p (nx (PX p b))=(nd (leI (((lettersS (gd p 0).int).str.length:Int)) 100) (bif !(hasB (lettersS (gd p 0).int).str 67) then (bif ltI 0 ((gd p 12).rows.length:Int) then nx (PX p true) else s_LetterOks9 17 p (nx (PX p b))) else s_LetterOks9 17 p (nx (PX p b)))) from by kernel_rfl,s_LetterOkx9,letters_len,nd_true]
 exact nx_or p _ _ _
def s_LetterOkg12 (p:List D):Bool:=storeOk (gd p 12)&&s_LetterOkg11 p
theorem s_LetterOkx12 (p:List D) (b:Bool):s_LetterOks12 17 p (nx (PX p b))=nx (PX p (!s_LetterOkg12 p)):=by
 rw [show s_LetterOks12 17 p (nx (PX p b))=(bif !(storeOk (gd p 12)) then nx (PX p true) else s_LetterOks11 17 p (nx (PX p b))) from by kernel_rfl,s_LetterOkx11]
 exact nx_and p _ _
def s_LetterOkg14 (p:List D):Bool:=(hasB (lettersS (gd p 0).int).str 87||(((gd p 11).rows.length:Int)==0))&&s_LetterOkg12 p
theorem s_LetterOkx14 (p:List D) (b:Bool):s_LetterOks14 17 p (nx (PX p b))=nx (PX p (!s_LetterOkg14 p)):=by
 rw [show s_LetterOks14 17 p (nx (PX p b))=(nd (leI (((lettersS (gd p 0).int).str.length:Int)) 100) (bif !(hasB (lettersS (gd p 0).int).str 87) then (bif ltI 0 ((gd p 11).rows.length:Int) then nx (PX p true) else s_LetterOks12 17 p (nx (PX p b))) else s_LetterOks12 17 p (nx (PX p b)))) from by kernel_rfl,s_LetterOkx12,letters_len,nd_true]
 exact nx_or p _ _ _
def s_LetterOkg15 (p:List D):Bool:=writesOk (gd p 11)&&s_LetterOkg14 p
theorem s_LetterOkx15 (p:List D) (b:Bool):s_LetterOks15 17 p (nx (PX p b))=nx (PX p (!s_LetterOkg15 p)):=by
 rw [show s_LetterOks15 17 p (nx (PX p b))=(bif !(writesOk (gd p 11)) then nx (PX p true) else s_LetterOks14 17 p (nx (PX p b))) from by kernel_rfl,s_LetterOkx14]
 exact nx_and p _ _
def s_LetterOkg17 (p:List D):Bool:=(hasB (lettersS (gd p 0).int).str 82||(((gd p 10).rows.length:Int)==0))&&s_LetterOkg15 p
theorem s_LetterOkx17 (p:List D) (b:Bool):s_LetterOks17 17 p (nx (PX p b))=nx (PX p (!s_LetterOkg17 p)):=by
 rw [show s_LetterOks17 17 p (nx (PX p b))=(nd (leI (((lettersS (gd p 0).int).str.length:Int)) 100) (bif !(hasB (lettersS (gd p 0).int).str 82) then (bif ltI 0 ((gd p 10).rows.length:Int) then nx (PX p true) else s_LetterOks15 17 p (nx (PX p b))) else s_LetterOks15 17 p (nx (PX p b)))) from by kernel_rfl,s_LetterOkx15,letters_len,nd_true]
 exact nx_or p _ _ _
def s_LetterOkg18 (p:List D):Bool:=decide (((gd p 10).rows.length:Int)≤16)&&s_LetterOkg17 p
theorem s_LetterOkx18 (p:List D) (b:Bool):s_LetterOks18 17 p (nx (PX p b))=nx (PX p (!s_LetterOkg18 p)):=by
 rw [show s_LetterOks18 17 p (nx (PX p b))=(bif ltI 16 ((gd p 10).rows.length:Int) then nx (PX p true) else s_LetterOks17 17 p (nx (PX p b))) from by kernel_rfl,s_LetterOkx17,lt_16]
 exact nx_and p _ _
theorem s_LetterOkx20 (p:List D) (b:Bool) (h:decide (((gd p 10).rows.length:Int)≤16)=true):s_LetterOks20 17 p (nx (PX p b))=ob (((List.range (gd p 10).rows.length).all fun m=>rangeOk (sub ((gd p 10).rows.getD m []) 0 2))&&((votesN (gd p 13) 0:Int)==((gd p 13).rows.length:Int))):=by
 have h16:(gd p 10).rows.length≤16:=by have:=of_decide_eq_true h; omega
 have e:=for_loop (L:=s_LetterOkL0 17 p) (fun k => [gd p 0,gd p 1,gd p 2,gd p 3,gd p 4,gd p 5,gd p 6,gd p 7,gd p 8,gd p 9,gd p 10,gd p 11,gd p 12,gd p 13,.i 0,.b false,lettersS (gd p 0).int,.i (k:Int),gd p 0,gd p 1,gd p 2,gd p 3,gd p 4,gd p 5,gd p 6,gd p 7,gd p 8,gd p 9,gd p 10,gd p 11,gd p 12,gd p 13]) (gd p 10).rows.length (fun m=>rangeOk (sub ((gd p 10).rows.getD m []) 0 2)) [.b false] 0 (fun k hk=>?_) ?_ (N:=17) (by omega)
 ·simp only [Int.natCast_zero] at e
  rw [show s_LetterOks20 17 p (nx (PX p b))=nd (iter (s_LetterOkL0 17 p) 17 [gd p 0,gd p 1,gd p 2,gd p 3,gd p 4,gd p 5,gd p 6,gd p 7,gd p 8,gd p 9,gd p 10,gd p 11,gd p 12,gd p 13,.i 0,.b false,lettersS (gd p 0).int,.i 0,gd p 0,gd p 1,gd p 2,gd p 3,gd p 4,gd p 5,gd p 6,gd p 7,gd p 8,gd p 9,gd p 10,gd p 11,gd p 12,gd p 13]).isSome (s_LetterOks19 17 p (iter (s_LetterOkL0 17 p) 17 [gd p 0,gd p 1,gd p 2,gd p 3,gd p 4,gd p 5,gd p 6,gd p 7,gd p 8,gd p 9,gd p 10,gd p 11,gd p 12,gd p 13,.i 0,.b false,lettersS (gd p 0).int,.i 0,gd p 0,gd p 1,gd p 2,gd p 3,gd p 4,gd p 5,gd p 6,gd p 7,gd p 8,gd p 9,gd p 10,gd p 11,gd p 12,gd p 13])) from by kernel_rfl,e]
  cases (List.range (gd p 10).rows.length).all fun m=>rangeOk (sub ((gd p 10).rows.getD m []) 0 2) <;> rfl
 ·show s_LetterOkL0 _ p [_,_,_,_,_,_,_,_,_,_,_,_,_,_,_,_,_,.i (k:Int),_,_,_,_,_,_,_,_,_,_,_,_,_,_]=_
  rw [s_LetterOkR0]
  simp only [int_i,c_lt hk,nd_ix hk,w64_succ hk (show (gd p 10).rows.length≤9223372036854775807 from by omega),Int.toNat_natCast]
  cases rangeOk (sub ((gd p 10).rows.getD k []) 0 2) <;> rfl
 ·show s_LetterOkL0 _ p [_,_,_,_,_,_,_,_,_,_,_,_,_,_,_,_,_,.i ((gd p 10).rows.length:Int),_,_,_,_,_,_,_,_,_,_,_,_,_,_]=_
  rw [s_LetterOkR0]
  simp only [int_i,c_nlt]
def s_LetterOkg21 (p:List D):Bool:=s_LetterOkg18 p&&(((List.range (gd p 10).rows.length).all fun m=>rangeOk (sub ((gd p 10).rows.getD m []) 0 2))&&((votesN (gd p 13) 0:Int)==((gd p 13).rows.length:Int)))
theorem s_LetterOkx21 (p:List D) (b:Bool):s_LetterOks21 17 p (nx (PX p b))=ob (s_LetterOkg21 p):=by
 rw [show s_LetterOks21 17 p (nx (PX p b))=nd (s_LetterOks18 17 p (nx (PX p b))).isSome (bif (gd (Out.pay (s_LetterOks18 17 p (nx (PX p b)))) 17).bool then ob false else s_LetterOks20 17 p (s_LetterOks18 17 p (nx (PX p b)))) from by kernel_rfl,s_LetterOkx18]
 show (bif !s_LetterOkg18 p then ob false else s_LetterOks20 17 p (nx (PX p (!s_LetterOkg18 p))))=_
 unfold s_LetterOkg21 s_LetterOkg18
 cases h:decide (((gd p 10).rows.length:Int)≤16)
 ·rfl
 ·rw [s_LetterOkx20 p _ h,Bool.true_and]
  exact ob_and _ _
def s_LetterOkg22 (p:List D):Bool:=s_LetterOkg7 p&&s_LetterOkg21 p
theorem s_LetterOkx22 (p:List D) (b:Bool):s_LetterOks22 17 p (nx (PX p b))=ob (s_LetterOkg22 p):=by
 rw [show s_LetterOks22 17 p (nx (PX p b))=nd (nd (leI (((lettersS (gd p 0).int).str.length:Int)) 100) (s_LetterOks7 17 p (nx (PX p b)))).isSome (bif (gd (Out.pay (nd (leI (((lettersS (gd p 0).int).str.length:Int)) 100) (s_LetterOks7 17 p (nx (PX p b))))) 17).bool then ob false else s_LetterOks21 17 p (nd (leI (((lettersS (gd p 0).int).str.length:Int)) 100) (s_LetterOks7 17 p (nx (PX p b))))) from by kernel_rfl,letters_len,nd_true,s_LetterOkx7]
 show (bif !s_LetterOkg7 p then ob false else s_LetterOks21 17 p (nx (PX p (!s_LetterOkg7 p))))=_
 rw [s_LetterOkx21]
 exact ob_and _ _
def s_LetterOkg23 (p:List D):Bool:=s_LetterOkg3 p&&s_LetterOkg22 p
theorem s_LetterOkx23 (p:List D):s_LetterOks23 17 p=ob (s_LetterOkg23 p):=by
 rw [show s_LetterOks23 17 p=nd (nd (leI (((lettersS (gd p 0).int).str.length:Int)) 100) (s_LetterOks3 17 p)).isSome (bif (gd (Out.pay (nd (leI (((lettersS (gd p 0).int).str.length:Int)) 100) (s_LetterOks3 17 p))) 17).bool then ob false else s_LetterOks22 17 p (nd (leI (((lettersS (gd p 0).int).str.length:Int)) 100) (s_LetterOks3 17 p))) from by kernel_rfl,letters_len,nd_true,s_LetterOkx3]
 show (bif !s_LetterOkg3 p then ob false else s_LetterOks22 17 p (nx (PX p (!s_LetterOkg3 p))))=_
 rw [s_LetterOkx22]
 exact ob_and _ _
def s_LetterOkg24 (p:List D):Bool:=numOk (hasB (lettersS (gd p 0).int).str 116) (gd p 4).int 1 60&&s_LetterOkg23 p
theorem s_LetterOkx24 (p:List D):s_LetterOks24 17 p=ob (s_LetterOkg24 p):=by
 rw [show s_LetterOks24 17 p=(bif !(numOk (hasB (lettersS (gd p 0).int).str 116) (gd p 4).int 1 60) then ob false else s_LetterOks23 17 p) from rfl,s_LetterOkx23]
 exact ob_and _ _
def s_LetterOkg25 (p:List D):Bool:=numOk (hasB (lettersS (gd p 0).int).str 113) (gd p 3).int 1 1000000000&&s_LetterOkg24 p
theorem s_LetterOkx25 (p:List D):s_LetterOks25 17 p=ob (s_LetterOkg25 p):=by
 rw [show s_LetterOks25 17 p=(bif !(numOk (hasB (lettersS (gd p 0).int).str 113) (gd p 3).int 1 1000000000) then ob false else nd (leI (((lettersS (gd p 0).int).str.length:Int)) 100) (s_LetterOks24 17 p)) from rfl,s_LetterOkx24,letters_len,nd_true]
 exact ob_and _ _
def s_LetterOkg26 (p:List D):Bool:=numOk (hasB (lettersS (gd p 0).int).str 99) (gd p 2).int 0 5&&s_LetterOkg25 p
theorem s_LetterOkx26 (p:List D):s_LetterOks26 17 p=ob (s_LetterOkg26 p):=by
 rw [show s_LetterOks26 17 p=(bif !(numOk (hasB (lettersS (gd p 0).int).str 99) (gd p 2).int 0 5) then ob false else nd (leI (((lettersS (gd p 0).int).str.length:Int)) 100) (s_LetterOks25 17 p)) from rfl,s_LetterOkx25,letters_len,nd_true]
 exact ob_and _ _
def s_LetterOkg27 (p:List D):Bool:=numOk (hasB (lettersS (gd p 0).int).str 103) (gd p 1).int 0 3&&s_LetterOkg26 p
theorem s_LetterOkx27 (p:List D):s_LetterOks27 17 p=ob (s_LetterOkg27 p):=by
 rw [show s_LetterOks27 17 p=(bif !(numOk (hasB (lettersS (gd p 0).int).str 103) (gd p 1).int 0 3) then ob false else nd (leI (((lettersS (gd p 0).int).str.length:Int)) 100) (s_LetterOks26 17 p)) from rfl,s_LetterOkx26,letters_len,nd_true]
 exact ob_and _ _
def s_LetterOkg28 (p:List D):Bool:= !((lettersS (gd p 0).int).str == [])&&s_LetterOkg27 p
theorem s_LetterOkx28 (p:List D):s_LetterOks28 17 p=ob (s_LetterOkg28 p):=by
 rw [show s_LetterOks28 17 p=(bif (lettersS (gd p 0).int).str == [] then ob false else nd (leI (((lettersS (gd p 0).int).str.length:Int)) 100) (s_LetterOks27 17 p)) from rfl,s_LetterOkx27,letters_len,nd_true]
 unfold s_LetterOkg28
 cases (lettersS (gd p 0).int).str == [] <;> rfl
theorem s_LetterOk_all (p:List D):s_LetterOkg28 p=letterG p (formI (gd p 0).int):=by
 obtain ⟨e0,e1,e2,e3,e4,e5,e6,e7,e8,e9,e10,e11,e12⟩:=letters_same (gd p 0).int
 unfold letterG s_LetterOkg28 s_LetterOkg27 s_LetterOkg26 s_LetterOkg25 s_LetterOkg24 s_LetterOkg23 s_LetterOkg22 s_LetterOkg21 s_LetterOkg18 s_LetterOkg17 s_LetterOkg15 s_LetterOkg14 s_LetterOkg12 s_LetterOkg11 s_LetterOkg9 s_LetterOkg8 s_LetterOkg7 s_LetterOkg6 s_LetterOkg5 s_LetterOkg3 s_LetterOkg2 s_LetterOkg1
 simp only [e0,e1,e2,e3,e4,e5,e6,e7,e8,e9,e10,e11,e12]
 rw [show (bif hasB (formI (gd p 0).int) 107 then rangeOk [gd p 5,gd p 6]&&(hasB (formI (gd p 0).int) 107||((gd p 5).int==0)&&((gd p 6).int==0)) else hasB (formI (gd p 0).int) 107||((gd p 5).int==0)&&((gd p 6).int==0))=(bif hasB (formI (gd p 0).int) 107 then rangeOk [gd p 5,gd p 6] else ((gd p 5).int==0)&&((gd p 6).int==0)) from by
  cases hasB (formI (gd p 0).int) 107
  ·rfl
  ·simp only [cond_true,Bool.true_or,Bool.and_true]]
 simp only [Bool.and_assoc]
def s_LetterOkE:Ent:=(52,e1 (ag rILetter) fun p=>(⟨rb,[.b (letterOk p)]⟩,true))
theorem s_LetterOk_ok:EntOk Tryz.prog s_LetterOkE:=e1_ok fun p h=>evFn_sound (N:=17) (ks:=s_LetterOkK) (key:=bo) s_LetterOkT_ok (enters Tryz.func52) Tryz.func52 fun hw=>by
 rw [s_LetterOk_ev]
 exact congrArg (fun x=>some (bo,x)) ((s_LetterOkx28 p).trans (congrArg ob ((s_LetterOk_all p).trans (letter_same p (formI (gd p 0).int)))))
end Go.Proofs.YtchceahcaaibcaaGreat
namespace Go.Proofs.YtchceahcaaibcaaGreat
set_option maxRecDepth 4096
set_option maxHeartbeats 1000000
abbrev i_clientRightT:FuncId→List T→Option (T × Bool):=find [i_ClientOkE,cofCPE,cofCSE]
theorem i_clientRightT_ok:CallOk Tryz.prog i_clientRightT:=find_ok (fC ⟨i_ClientOk_ok,fC ⟨cofCP_ok,fC ⟨cofCS_ok,fN⟩⟩⟩)
abbrev i_clientRightK:List Nat:= [0,1,2,3,4]
theorem i_clientRight_ev (N:Nat) (p q:List D):evFn Tryz.prog i_clientRightT N i_clientRightK Tryz.f68 rb [⟨ag rIClient,p⟩,⟨ri,q⟩]=some (bo,
 nd (clientSmall (sub p 0 9)) (bif clientOk (sub p 0 9) then bif ltI (gd p 7).int (gd q 0).int then bif !(anyS (fun rr=>ixfCPC (.l [[.l [[gd q 0]]]]) (sub rr 0 3)) (gd p 8)) then ob (!(anyS (fun rr=>ixfCSC (.l [[.l [[gd q 0]]]]) (sub rr 0 3)) (gd p 4)))
 else ob false
 else ob false
 else ob false)):=by kernel_rfl
def seenIn (z:D) (n:Int):Bool:=(List.range z.rows.length).all fun k => !leI n (gd (z.rows.getD k []) 0).int
def clientRight (p:List D) (n:Int):Bool:=clientOk p&&(ltI (gd p 7).int n&&(ownersIn (gd p 8) n&&seenIn (gd p 4) n))
theorem owners_any (z q:D):(!(anyS (fun rr=>ixfCPC (.l [[.l [[q]]]]) (sub rr 0 3)) z))=ownersIn z q.int:=by
 unfold anyS ownersIn
 rw [← not_any]
 rfl
theorem seen_anyIn (z q:D):(!(anyS (fun rr=>ixfCSC (.l [[.l [[q]]]]) (sub rr 0 3)) z))=seenIn z q.int:=by
 unfold anyS seenIn
 rw [← not_any]
 rfl
def i_clientRightE:Ent:=(68,e2 (ag rIClient) ri fun p q=>(⟨rb,[.b (clientRight p (gd q 0).int)]⟩,clientSmall p))
theorem i_clientRight_ok:EntOk Tryz.prog i_clientRightE:=e2_ok fun p q h=>evFn_sound (N:=0) (ks:=i_clientRightK) (key:=bo) i_clientRightT_ok (enters Tryz.func68) Tryz.func68 fun hw=>by
 rw [i_clientRight_ev]
 rw [owners_any,seen_anyIn]
 have h:clientSmall p=true:=h
 rw [show clientSmall (sub p 0 9)=clientSmall p from rfl,h,nd_true,show clientOk (sub p 0 9)=clientOk p from rfl]
 unfold clientRight
 cases clientOk p <;> cases ltI (gd p 7).int (gd q 0).int <;> cases ownersIn (gd p 8) (gd q 0).int <;> cases seenIn (gd p 4) (gd q 0).int <;> rfl
abbrev s_l16ClientsOkT:FuncId→List T→Option (T × Bool):=find [s_ClientOkE,s_l16OwnersInE]
theorem s_l16ClientsOkT_ok:CallOk Tryz.prog s_l16ClientsOkT:=find_ok (fC ⟨s_ClientOk_ok,fC ⟨s_l16OwnersIn_ok,fN⟩⟩)
abbrev s_l16ClientsOkK:List Nat:= [0,1,2,3,4,5,6,14,37,42,52]
noncomputable def s_l16ClientsOkL0 (N:Nat) (p:List D):List D→Out:=loopOf Tryz.prog s_l16ClientsOkT N s_l16ClientsOkK Tryz.f50 rb [⟨ag rITown,p⟩] 0
noncomputable def s_l16ClientsOkL2 (N:Nat) (p:List D):List D→Out:=loopOf Tryz.prog s_l16ClientsOkT N s_l16ClientsOkK Tryz.f50 rb [⟨ag rITown,p⟩] 2
theorem s_l16ClientsOkR0 (N:Nat) (p:List D) (x0 x1 x2 x3 x4 x5 x6 x7 x8 x9 x10 x11 x12 x13 x14 x15 x16 x17 x18 x19 x20 x21 x22 x23 x24 x25 x26 x27 x28 x29 x30 x31 x32 x33:D):(s_l16ClientsOkL0 N p) [x0,x1,x2,x3,x4,x5,x6,x7,x8,x9,x10,x11,x12,x13,x14,x15,x16,x17,x18,x19,x20,x21,x22,x23,x24,x25,x26,x27,x28,x29,x30,x31,x32,x33] =
 bif ltI x18.int (x31.rows.length:Int) then nd (inRange x18.int x31.rows.length) (bif !(clientOk (sub (x31.rows.getD x18.int.toNat []) 0 9)) then ob false
 else bif !(ownersIn (gd (x31.rows.getD x18.int.toNat []) 8) x17.int) then ob false
 else bif leI x17.int (gd (x31.rows.getD x18.int.toNat []) 7).int then ob false
 else (let o2:=iter (s_l16ClientsOkL2 N p) N [x0,x1,x2,x3,x4,x5,x6,x7,x8,x9,x10,x11,x12,x13,x14,x15,x16,x17,x18,.b (ltI x18.int (x31.rows.length:Int)),.i 0,.b (leI x17.int (gd (x31.rows.getD x18.int.toNat []) 7).int),.i 0,x19,x20,x21,x22,x23,x24,x25,x26,x27,x28,x29,x30,x31,x32,x33,gd (x31.rows.getD x18.int.toNat []) 0,gd (x31.rows.getD x18.int.toNat []) 1,gd (x31.rows.getD x18.int.toNat []) 2,gd (x31.rows.getD x18.int.toNat []) 3,gd (x31.rows.getD x18.int.toNat []) 4,gd (x31.rows.getD x18.int.toNat []) 5,gd (x31.rows.getD x18.int.toNat []) 6,gd (x31.rows.getD x18.int.toNat []) 7,gd (x31.rows.getD x18.int.toNat []) 8]
  nd o2.isSome (bif o2.code==1 then some (1,o2.pay)
  else nd (o2.code==4) (nx [gd o2.pay 0,gd o2.pay 1,gd o2.pay 2,gd o2.pay 3,gd o2.pay 4,gd o2.pay 5,gd o2.pay 6,gd o2.pay 7,gd o2.pay 8,gd o2.pay 9,gd o2.pay 10,gd o2.pay 11,gd o2.pay 12,gd o2.pay 13,gd o2.pay 14,gd o2.pay 15,gd o2.pay 16,gd o2.pay 17,.i (w64 ((gd o2.pay 18).int+1)),gd o2.pay 23,gd o2.pay 24,gd o2.pay 25,gd o2.pay 26,gd o2.pay 27,gd o2.pay 28,gd o2.pay 29,gd o2.pay 30,gd o2.pay 31,gd o2.pay 32,gd o2.pay 33,gd o2.pay 34,gd o2.pay 35,gd o2.pay 36,gd o2.pay 37]))))
 else ex 0 [x0,x1,x2,x3,x4,x5,x6,x7,x8,x9,x10,x11,x12,x13,x14,x15,x16,x17,x18,x19,x20,x21,x22,x23,x24,x25,x26,x27,x28,x29,x30,x31,x32,x33]:=by kernel_rfl
theorem s_l16ClientsOkR2 (N:Nat) (p:List D) (x0 x1 x2 x3 x4 x5 x6 x7 x8 x9 x10 x11 x12 x13 x14 x15 x16 x17 x18 x19 x20 x21 x22 x23 x24 x25 x26 x27 x28 x29 x30 x31 x32 x33 x34 x35 x36 x37 x38 x39 x40 x41 x42 x43 x44 x45 x46:D):(s_l16ClientsOkL2 N p) [x0,x1,x2,x3,x4,x5,x6,x7,x8,x9,x10,x11,x12,x13,x14,x15,x16,x17,x18,x19,x20,x21,x22,x23,x24,x25,x26,x27,x28,x29,x30,x31,x32,x33,x34,x35,x36,x37,x38,x39,x40,x41,x42,x43,x44,x45,x46] =
 bif ltI x22.int (x42.rows.length:Int) then nd (inRange x22.int x42.rows.length) (bif leI x17.int (gd (x42.rows.getD x22.int.toNat []) 0).int then ob false
 else nx [x0,x1,x2,x3,x4,x5,x6,x7,x8,x9,x10,x11,x12,x13,x14,x15,x16,x17,x18,x19,x20,x21,.i (w64 (x22.int+1)),x23,x24,x25,x26,x27,x28,x29,x30,x31,x32,x33,x34,x35,x36,x37,x38,x39,x40,x41,x42,x43,x44,x45,x46])
 else ex 2 [x0,x1,x2,x3,x4,x5,x6,x7,x8,x9,x10,x11,x12,x13,x14,x15,x16,x17,x18,x19,x20,x21,x22,x23,x24,x25,x26,x27,x28,x29,x30,x31,x32,x33,x34,x35,x36,x37,x38,x39,x40,x41,x42,x43,x44,x45,x46]:=by kernel_rfl
theorem s_l16ClientsOk_ev (N:Nat) (p:List D):evFn Tryz.prog s_l16ClientsOkT N s_l16ClientsOkK Tryz.f50 rb [⟨ag rITown,p⟩]=some (bo,
 (let o0:=iter (s_l16ClientsOkL0 N p) N [gd p 0,gd p 1,gd p 2,gd p 3,gd p 4,gd p 5,gd p 6,gd p 7,gd p 8,gd p 9,gd p 10,gd p 11,gd p 12,gd p 13,gd p 14,.i 0,.i 0,.i ((gd p 9).rows.length:Int),.i 0,gd p 0,gd p 1,gd p 2,gd p 3,gd p 4,gd p 5,gd p 6,gd p 7,gd p 8,gd p 9,gd p 10,gd p 11,gd p 12,gd p 13,gd p 14]
  nd o0.isSome (bif o0.code==1 then some (1,o0.pay)
  else nd (o0.code==2) (ob true)))):=by kernel_rfl
def clientsOk (z:D) (n:Int):Bool:=(List.range z.rows.length).all fun k=>clientRight (z.rows.getD k []) n
theorem leI_not (a b:Int):leI a b = !ltI b a:=by
 rw [Bool.eq_iff_iff]; simp only [leI,ltI,decide_eq_true_eq,Bool.not_eq_true',decide_eq_false_iff_not]; omega
theorem client_seen {p:List D} (h:clientOk p=true):(gd p 4).rows.length≤16:=by
 unfold clientOk at h
 simp only [Bool.and_eq_true] at h
 have h:=h.2.2.2
 cases hc:ltI (gd p 0).int 2
 ·rw [hc,cond_false] at h
  simp only [clientBusy,seenOk,Bool.and_eq_true,leI,decide_eq_true_eq] at h
  omega
 ·rw [hc,cond_true] at h
  simp only [clientIdle,Bool.and_eq_true,beq_iff_eq] at h
  omega
theorem clients_in (p:List D) (N k:Nat) (b1 b2:D) (hN:17≤N) (h:(gd ((gd p 12).rows.getD k []) 4).rows.length≤16):iter (s_l16ClientsOkL2 N p) N [gd p 0,gd p 1,gd p 2,gd p 3,gd p 4,gd p 5,gd p 6,gd p 7,gd p 8,gd p 9,gd p 10,gd p 11,gd p 12,gd p 13,gd p 14,.i 0,.i 0,.i ((gd p 9).rows.length:Int),.i (k:Int),b1,.i 0,b2,.i 0,gd p 0,gd p 1,gd p 2,gd p 3,gd p 4,gd p 5,gd p 6,gd p 7,gd p 8,gd p 9,gd p 10,gd p 11,gd p 12,gd p 13,gd p 14,gd ((gd p 12).rows.getD k []) 0,gd ((gd p 12).rows.getD k []) 1,gd ((gd p 12).rows.getD k []) 2,gd ((gd p 12).rows.getD k []) 3,gd ((gd p 12).rows.getD k []) 4,gd ((gd p 12).rows.getD k []) 5,gd ((gd p 12).rows.getD k []) 6,gd ((gd p 12).rows.getD k []) 7,gd ((gd p 12).rows.getD k []) 8]=some (bif seenIn (gd ((gd p 12).rows.getD k []) 4) ((gd p 9).rows.length:Int) then (4,[gd p 0,gd p 1,gd p 2,gd p 3,gd p 4,gd p 5,gd p 6,gd p 7,gd p 8,gd p 9,gd p 10,gd p 11,gd p 12,gd p 13,gd p 14,.i 0,.i 0,.i ((gd p 9).rows.length:Int),.i (k:Int),b1,.i 0,b2,.i ((gd ((gd p 12).rows.getD k []) 4).rows.length:Int),gd p 0,gd p 1,gd p 2,gd p 3,gd p 4,gd p 5,gd p 6,gd p 7,gd p 8,gd p 9,gd p 10,gd p 11,gd p 12,gd p 13,gd p 14,gd ((gd p 12).rows.getD k []) 0,gd ((gd p 12).rows.getD k []) 1,gd ((gd p 12).rows.getD k []) 2,gd ((gd p 12).rows.getD k []) 3,gd ((gd p 12).rows.getD k []) 4,gd ((gd p 12).rows.getD k []) 5,gd ((gd p 12).rows.getD k []) 6,gd ((gd p 12).rows.getD k []) 7,gd ((gd p 12).rows.getD k []) 8]) else (1,[.b false])):=by
 have e:=for_loop (L:=s_l16ClientsOkL2 N p) (fun j => [gd p 0,gd p 1,gd p 2,gd p 3,gd p 4,gd p 5,gd p 6,gd p 7,gd p 8,gd p 9,gd p 10,gd p 11,gd p 12,gd p 13,gd p 14,.i 0,.i 0,.i ((gd p 9).rows.length:Int),.i (k:Int),b1,.i 0,b2,.i (j:Int),gd p 0,gd p 1,gd p 2,gd p 3,gd p 4,gd p 5,gd p 6,gd p 7,gd p 8,gd p 9,gd p 10,gd p 11,gd p 12,gd p 13,gd p 14,gd ((gd p 12).rows.getD k []) 0,gd ((gd p 12).rows.getD k []) 1,gd ((gd p 12).rows.getD k []) 2,gd ((gd p 12).rows.getD k []) 3,gd ((gd p 12).rows.getD k []) 4,gd ((gd p 12).rows.getD k []) 5,gd ((gd p 12).rows.getD k []) 6,gd ((gd p 12).rows.getD k []) 7,gd ((gd p 12).rows.getD k []) 8]) (gd ((gd p 12).rows.getD k []) 4).rows.length (fun j => !leI ((gd p 9).rows.length:Int) (gd ((gd ((gd p 12).rows.getD k []) 4).rows.getD j []) 0).int) [.b false] 2 (fun j hj=>?_) ?_ (N:=N) (by omega)
 ·simp only [Int.natCast_zero] at e
  exact e
 ·show s_l16ClientsOkL2 _ p [_,_,_,_,_,_,_,_,_,_,_,_,_,_,_,_,_,_,_,_,_,_,.i (j:Int),_,_,_,_,_,_,_,_,_,_,_,_,_,_,_,_,_,_,_,_,_,_,_,_]=_
  rw [s_l16ClientsOkR2]
  simp only [int_i,c_lt hj,nd_ix hj,w64_succ hj (show (gd ((gd p 12).rows.getD k []) 4).rows.length≤9223372036854775807 from by omega),Int.toNat_natCast]
  cases leI ((gd p 9).rows.length:Int) (gd ((gd ((gd p 12).rows.getD k []) 4).rows.getD j []) 0).int <;> rfl
 ·show s_l16ClientsOkL2 _ p [_,_,_,_,_,_,_,_,_,_,_,_,_,_,_,_,_,_,_,_,_,_,.i ((gd ((gd p 12).rows.getD k []) 4).rows.length:Int),_,_,_,_,_,_,_,_,_,_,_,_,_,_,_,_,_,_,_,_,_,_,_,_]=_
  rw [s_l16ClientsOkR2]
  simp only [int_i,c_nlt]
def s_l16ClientsOkE:Ent:=(50,e1 (ag rITown) fun p=>(⟨rb,[.b (clientsOk (gd p 12) ((gd p 9).rows.length:Int))]⟩,true))
theorem s_l16ClientsOk_ok:EntOk Tryz.prog s_l16ClientsOkE:=e1_ok fun p h=>evFn_sound (N:=(gd p 12).rows.length+17) (ks:=s_l16ClientsOkK) (key:=bo) s_l16ClientsOkT_ok (enters Tryz.func50) Tryz.func50 fun hw=>by
 rw [s_l16ClientsOk_ev]
 have hl:=wt_at (hw ⟨ag rITown,p⟩ (by simp)) (j:=12) rfl
 have e:=for_loop (L:=s_l16ClientsOkL0 ((gd p 12).rows.length+17) p) (fun k => [gd p 0,gd p 1,gd p 2,gd p 3,gd p 4,gd p 5,gd p 6,gd p 7,gd p 8,gd p 9,gd p 10,gd p 11,gd p 12,gd p 13,gd p 14,.i 0,.i 0,.i ((gd p 9).rows.length:Int),.i (k:Int),gd p 0,gd p 1,gd p 2,gd p 3,gd p 4,gd p 5,gd p 6,gd p 7,gd p 8,gd p 9,gd p 10,gd p 11,gd p 12,gd p 13,gd p 14]) (gd p 12).rows.length (fun k=>clientRight ((gd p 12).rows.getD k []) ((gd p 9).rows.length:Int)) [.b false] 0 (fun k hk=>?_) ?_ (N:=(gd p 12).rows.length+17) (by omega)
 ·simp only [Int.natCast_zero] at e
  rw [e]
  unfold clientsOk
  cases (List.range (gd p 12).rows.length).all fun k=>clientRight ((gd p 12).rows.getD k []) ((gd p 9).rows.length:Int) <;> rfl
 ·show s_l16ClientsOkL0 _ p [_,_,_,_,_,_,_,_,_,_,_,_,_,_,_,_,_,_,.i (k:Int),_,_,_,_,_,_,_,_,_,_,_,_,_,_,_]=_
  rw [s_l16ClientsOkR0]
  simp only [int_i,c_lt hk,nd_ix hk,Int.toNat_natCast]
  rw [show clientOk (sub ((gd p 12).rows.getD k []) 0 9)=clientOk ((gd p 12).rows.getD k []) from rfl]
  unfold clientRight
  cases hc:clientOk ((gd p 12).rows.getD k [])
  ·rfl
  cases ho:ownersIn (gd ((gd p 12).rows.getD k []) 8) ((gd p 9).rows.length:Int)
  ·cases ltI (gd ((gd p 12).rows.getD k []) 7).int ((gd p 9).rows.length:Int) <;> rfl
  rw [leI_not]
  cases ht:ltI (gd ((gd p 12).rows.getD k []) 7).int ((gd p 9).rows.length:Int)
  ·rfl
  simp only [Bool.not_true,cond_false]
  rw [clients_in p _ k _ _ (by omega) (client_seen hc)]
  cases seenIn (gd ((gd p 12).rows.getD k []) 4) ((gd p 9).rows.length:Int)
  ·rfl
  ·simp only [nd,cond_true,cond_false,Option.isSome_some,Out.code,Out.pay,Option.getD_some,gd_cons_zero,gd_cons_succ,Nat.reduceBEq,Nat.reduceAdd,int_i,w64_succ hk hl]
   rfl
 ·show s_l16ClientsOkL0 _ p [_,_,_,_,_,_,_,_,_,_,_,_,_,_,_,_,_,_,.i ((gd p 12).rows.length:Int),_,_,_,_,_,_,_,_,_,_,_,_,_,_,_]=_
  rw [s_l16ClientsOkR0]
  simp only [int_i,c_nlt]
abbrev i_StoreNewT:FuncId→List T→Option (T × Bool):=find [i_StoreOkE,i_WritesOkE,i_valueOfE]
theorem i_StoreNewT_ok:CallOk Tryz.prog i_StoreNewT:=find_ok (fC ⟨i_StoreOk_ok,fC ⟨i_WritesOk_ok,fC ⟨i_valueOf_ok,fN⟩⟩⟩)
abbrev i_StoreNewK:List Nat:= [0,1,4,5,7,15,16,17,18,19,31]
noncomputable def i_StoreNewL0 (N:Nat) (p q:List D):List D→Out:=loopOf Tryz.prog i_StoreNewT N i_StoreNewK Tryz.f270 ri [⟨sd (.sl 176),p⟩,⟨sd (.sl 132),q⟩] 0
theorem i_StoreNewR0 (N:Nat) (p q:List D) (x0 x1 x2 x3 x4 x5 x6 x7:D):(i_StoreNewL0 N p q) [x0,x1,x2,x3,x4,x5,x6,x7] =
 bif ltI x7.int x6.int then nd (inRange x7.int x5.rows.length) (bif (gd (x5.rows.getD x7.int.toNat []) 1).int != (-1) then nd (storeOk x0&&inB (gd (x5.rows.getD x7.int.toNat []) 0).int 0 999) (bif ltI (valD x0 (gd (x5.rows.getD x7.int.toNat []) 0).int).int 0 then nx [x0,x1,x2,x3,.i (w64 (x4.int+1)),x5,x6,.i (w64 (x7.int+1))]
 else nx [x0,x1,x2,x3,x4,x5,x6,.i (w64 (x7.int+1))])
 else nx [x0,x1,x2,x3,x4,x5,x6,.i (w64 (x7.int+1))])
 else ex 0 [x0,x1,x2,x3,x4,x5,x6,x7]:=by kernel_rfl
theorem i_StoreNew_ev (N:Nat) (p q:List D):evFn Tryz.prog i_StoreNewT N i_StoreNewK Tryz.f270 ri [⟨sd (.sl 176),p⟩,⟨sd (.sl 132),q⟩]=some (bo,
 bif !(storeOk (gd p 0)) then oi (-1)
 else bif !(writesOk (gd q 0)) then oi (-1)
 else (let o0:=iter (i_StoreNewL0 N p q) N [gd p 0,gd q 0,.i 0,.b (!(writesOk (gd q 0))),.i 0,gd q 0,.i ((gd q 0).rows.length:Int),.i 0]
  nd o0.isSome (nd (o0.code==2) (some (1,[gd o0.pay 4]))))):=by kernel_rfl
def newAt (z w:D) (k:Nat):Bool:=leI 0 (gd (w.rows.getD k []) 1).int&&ltI (valD z (gd (w.rows.getD k []) 0).int).int 0
def storeNew (z w:D):Int:=bif storeOk z then bif writesOk w then (cnt (newAt z w) 0 w.rows.length:Int) else -1 else -1
theorem write_at {w:D} (h:writesOk w=true) {k:Nat} (hk:k<w.rows.length):w.rows.length≤60∧inB (gd (w.rows.getD k []) 0).int 0 999=true∧((gd (w.rows.getD k []) 1).int != (-1))=leI 0 (gd (w.rows.getD k []) 1).int:=by
 simp only [writesOk,Bool.and_eq_true,List.all_eq_true,List.mem_range,decide_eq_true_eq] at h
 obtain ⟨hl,h⟩:=h
 have:=h k hk
 simp only [writeAt,Bool.and_eq_true] at this
 refine ⟨by omega,this.1,?_⟩
 have h2:=this.2.1
 simp only [inB,Bool.and_eq_true,decide_eq_true_eq] at h2
 rw [Bool.eq_iff_iff]
 simp only [bne_iff_ne,ne_eq,leI,decide_eq_true_eq]
 omega
theorem writes_len60 {w:D} (h:writesOk w=true):w.rows.length≤60:=by
 simp only [writesOk,Bool.and_eq_true,decide_eq_true_eq] at h
 omega
theorem new_step (z w:D) (k:Nat) (h:k<1000):(cnt (newAt z w) 0 (k+1):Int)=bif newAt z w k then w64 ((cnt (newAt z w) 0 k:Int)+1) else (cnt (newAt z w) 0 k:Int):=by
 have:=cnt_le (newAt z w) k 0
 rw [cnt_succ,Nat.zero_add]
 cases newAt z w k
 ·rfl
 ·rw [cond_true,cond_true,w64_id (by omega) (by omega)]; omega
def i_StoreNewE:Ent:=(270,e2 (sd (.sl 176)) (sd (.sl 132)) fun p q=>(⟨ri,[.i (storeNew (gd p 0) (gd q 0))]⟩,true))
theorem i_StoreNew_ok:EntOk Tryz.prog i_StoreNewE:=e2_ok fun p q h=>evFn_sound (N:=61) (ks:=i_StoreNewK) (key:=bo) i_StoreNewT_ok (enters Tryz.func270) Tryz.func270 fun hw=>by
 rw [i_StoreNew_ev]
 unfold storeNew
 cases hz:storeOk (gd p 0)
 ·rfl
 cases hw:writesOk (gd q 0)
 ·rfl
 have hlen:=writes_len60 hw
 simp only [Bool.not_true,cond_false,cond_true]
 have e:=run_loop (L:=i_StoreNewL0 61 p q) (fun k => [gd p 0,gd q 0,.i 0,.b false,.i (cnt (newAt (gd p 0) (gd q 0)) 0 k:Int),gd q 0,.i ((gd q 0).rows.length:Int),.i (k:Int)]) (gd q 0).rows.length 0 (fun k hk=>?_) ?_ (N:=61) (by omega)
 ·simp only [Int.natCast_zero,cnt_zero] at e
  rw [e]
  rfl
 ·show i_StoreNewL0 _ p q [_,_,_,_,_,_,_,.i (k:Int)]=_
  rw [i_StoreNewR0]
  obtain ⟨_,hk2,hk3⟩:=write_at hw hk
  simp only [int_i,c_lt hk,nd_ix hk,w64_succ hk (show (gd q 0).rows.length≤9223372036854775807 from by omega),Int.toNat_natCast]
  rw [hz,hk2,hk3,new_step _ _ _ (show k<1000 from by omega)]
  unfold newAt
  cases leI 0 (gd ((gd q 0).rows.getD k []) 1).int <;> cases ltI (valD (gd p 0) (gd ((gd q 0).rows.getD k []) 0).int).int 0 <;> rfl
 ·show i_StoreNewL0 _ p q [_,_,_,_,_,_,.i ((gd q 0).rows.length:Int),.i ((gd q 0).rows.length:Int)]=_
  rw [i_StoreNewR0]
  simp only [int_i,c_nlt]
abbrev s_StoreNewT:FuncId→List T→Option (T × Bool):=find [s_StoreOkE,s_WritesOkE,s_l11GetE]
theorem s_StoreNewT_ok:CallOk Tryz.prog s_StoreNewT:=find_ok (fC ⟨s_StoreOk_ok,fC ⟨s_WritesOk_ok,fC ⟨s_l11Get_ok,fN⟩⟩⟩)
abbrev s_StoreNewK:List Nat:= [0,1,4,5,6,14,18,36]
noncomputable def s_StoreNewL0 (N:Nat) (p q:List D):List D→Out:=loopOf Tryz.prog s_StoreNewT N s_StoreNewK Tryz.f243 ri [⟨sd (.sl 176),p⟩,⟨sd (.sl 132),q⟩] 0
theorem s_StoreNewR0 (N:Nat) (p q:List D) (x0 x1 x2 x3 x4 x5:D):(s_StoreNewL0 N p q) [x0,x1,x2,x3,x4,x5] =
 bif ltI x5.int (x1.rows.length:Int) then nd (inRange x5.int x1.rows.length) (bif leI 0 (gd (x1.rows.getD x5.int.toNat []) 1).int then nd (inRange x5.int x1.rows.length) (nd (storeOk x0) (bif ltI (valD x0 (gd (x1.rows.getD x5.int.toNat []) 0).int).int 0 then nx [x0,x1,x2,x3,.i (w64 (x4.int+1)),.i (w64 (x5.int+1))]
 else nx [x0,x1,x2,x3,x4,.i (w64 (x5.int+1))]))
 else nx [x0,x1,x2,x3,x4,.i (w64 (x5.int+1))])
 else ex 0 [x0,x1,x2,x3,x4,x5]:=by kernel_rfl
theorem s_StoreNew_ev (N:Nat) (p q:List D):evFn Tryz.prog s_StoreNewT N s_StoreNewK Tryz.f243 ri [⟨sd (.sl 176),p⟩,⟨sd (.sl 132),q⟩]=some (bo,
 bif !(storeOk (gd p 0)) then oi (-1)
 else bif !(writesOk (gd q 0)) then oi (-1)
 else (let o0:=iter (s_StoreNewL0 N p q) N [gd p 0,gd q 0,.i 0,.b (!(writesOk (gd q 0))),.i 0,.i 0]
  nd o0.isSome (nd (o0.code==2) (some (1,[gd o0.pay 4]))))):=by kernel_rfl
def s_StoreNewE:Ent:=(243,e2 (sd (.sl 176)) (sd (.sl 132)) fun p q=>(⟨ri,[.i (storeNew (gd p 0) (gd q 0))]⟩,true))
theorem s_StoreNew_ok:EntOk Tryz.prog s_StoreNewE:=e2_ok fun p q h=>evFn_sound (N:=61) (ks:=s_StoreNewK) (key:=bo) s_StoreNewT_ok (enters Tryz.func243) Tryz.func243 fun hw=>by
 rw [s_StoreNew_ev]
 unfold storeNew
 cases hz:storeOk (gd p 0)
 ·rfl
 cases hw:writesOk (gd q 0)
 ·rfl
 have hlen:=writes_len60 hw
 simp only [Bool.not_true,cond_false,cond_true]
 have e:=run_loop (L:=s_StoreNewL0 61 p q) (fun k => [gd p 0,gd q 0,.i 0,.b false,.i (cnt (newAt (gd p 0) (gd q 0)) 0 k:Int),.i (k:Int)]) (gd q 0).rows.length 0 (fun k hk=>?_) ?_ (N:=61) (by omega)
 ·simp only [Int.natCast_zero,cnt_zero] at e
  rw [e]
  rfl
 ·show s_StoreNewL0 _ p q [_,_,_,_,_,.i (k:Int)]=_
  rw [s_StoreNewR0]
  simp only [int_i,c_lt hk,nd_ix hk,w64_succ hk (show (gd q 0).rows.length≤9223372036854775807 from by omega),Int.toNat_natCast]
  rw [hz,nd_true,new_step _ _ _ (show k<1000 from by omega)]
  unfold newAt
  cases leI 0 (gd ((gd q 0).rows.getD k []) 1).int <;> cases ltI (valD (gd p 0) (gd ((gd q 0).rows.getD k []) 0).int).int 0 <;> rfl
 ·show s_StoreNewL0 _ p q [_,_,_,_,_,.i ((gd q 0).rows.length:Int)]=_
  rw [s_StoreNewR0]
  simp only [int_i,c_nlt]
end Go.Proofs.YtchceahcaaibcaaGreat
namespace Go.Proofs.YtchceahcaaibcaaGreat
set_option maxRecDepth 4096
set_option maxHeartbeats 1000000
abbrev i_roomT:FuncId→List T→Option (T × Bool):=find [i_StoreNewE]
theorem i_roomT_ok:CallOk Tryz.prog i_roomT:=find_ok (fC ⟨i_StoreNew_ok,fN⟩)
abbrev i_roomK:List Nat:= [0,1,2,3,5,10,11,12,13]
noncomputable def i_roomL0 (N:Nat) (p:List D):List D→Out:=loopOf Tryz.prog i_roomT N i_roomK Tryz.f177 ri [⟨ag rIShard,p⟩] 0
theorem i_roomR0 (N:Nat) (p:List D) (x0 x1 x2 x3 x4 x5 x6 x7 x8 x9 x10 x11 x12 x13 x14 x15 x16 x17 x18 x19 x20 x21 x22 x23:D):(i_roomL0 N p) [x0,x1,x2,x3,x4,x5,x6,x7,x8,x9,x10,x11,x12,x13,x14,x15,x16,x17,x18,x19,x20,x21,x22,x23] =
 bif ltI x14.int x13.int then nd (inRange x14.int x12.rows.length) (nx [x0,x1,x2,x3,x4,x5,x6,x7,x8,x9,x10,.i (w64 (x11.int+(storeNew x18 (gd (x12.rows.getD x14.int.toNat []) 1)))),x12,x13,.i (w64 (x14.int+1)),x15,x16,x17,x18,x19,x20,x21,x22,x23])
 else ex 0 [x0,x1,x2,x3,x4,x5,x6,x7,x8,x9,x10,x11,x12,x13,x14,x15,x16,x17,x18,x19,x20,x21,x22,x23]:=by kernel_rfl
theorem i_room_ev (N:Nat) (p:List D):evFn Tryz.prog i_roomT N i_roomK Tryz.f177 ri [⟨ag rIShard,p⟩]=some (bo,
 (let o0:=iter (i_roomL0 N p) N [gd p 0,gd p 1,gd p 2,gd p 3,gd p 4,gd p 5,gd p 6,gd p 7,gd p 8,.i 0,.i 0,.i ((gd p 3).rows.length:Int),gd p 5,.i ((gd p 5).rows.length:Int),.i 0,gd p 0,gd p 1,gd p 2,gd p 3,gd p 4,gd p 5,gd p 6,gd p 7,gd p 8]
  nd o0.isSome (nd (o0.code==2) (some (1,[gd o0.pay 11]))))):=by kernel_rfl
def newSum (c hs:D):Nat→Int
 | 0=>0
 | k+1=>newSum c hs k+storeNew c (gd (hs.rows.getD k []) 1)
def roomOf (p:List D):Int:=((gd p 3).rows.length:Int)+newSum (gd p 3) (gd p 5) (gd p 5).rows.length
theorem storeNew_in (c w:D) : -1≤storeNew c w∧storeNew c w≤60:=by
 unfold storeNew
 cases storeOk c
 ·simp only [cond_false]; omega
 cases h:writesOk w
 ·simp only [cond_true,cond_false]; omega
 have h1:=writes_len60 h
 have h2:=cnt_le (newAt c w) w.rows.length 0
 simp only [cond_true]
 omega
theorem newSum_in (c hs:D):∀ k:Nat,-(k:Int)≤newSum c hs k∧newSum c hs k≤60*(k:Int)
 | 0=>⟨by simp only [newSum]; omega,by simp only [newSum]; omega⟩
 | k+1=>by
  have h1:=newSum_in c hs k
  have h2:=storeNew_in c (gd (hs.rows.getD k []) 1)
  simp only [newSum]
  omega
def i_roomE:Ent:=(177,e1 (ag rIShard) fun p=>(⟨ri,[.i (roomOf p)]⟩,leI ((gd p 3).rows.length:Int) 1000000000&&leI ((gd p 5).rows.length:Int) 1000000000))
theorem i_room_ok:EntOk Tryz.prog i_roomE:=e1_ok fun p h=>evFn_sound (N:=(gd p 5).rows.length+1) (ks:=i_roomK) (key:=bo) i_roomT_ok (enters Tryz.func177) Tryz.func177 fun hw=>by
 rw [i_room_ev]
 have h:(leI ((gd p 3).rows.length:Int) 1000000000&&leI ((gd p 5).rows.length:Int) 1000000000)=true:=h
 simp only [Bool.and_eq_true,leI,decide_eq_true_eq] at h
 have e:=run_loop (L:=i_roomL0 ((gd p 5).rows.length+1) p) (fun k => [gd p 0,gd p 1,gd p 2,gd p 3,gd p 4,gd p 5,gd p 6,gd p 7,gd p 8,.i 0,.i 0,.i (((gd p 3).rows.length:Int)+newSum (gd p 3) (gd p 5) k),gd p 5,.i ((gd p 5).rows.length:Int),.i (k:Int),gd p 0,gd p 1,gd p 2,gd p 3,gd p 4,gd p 5,gd p 6,gd p 7,gd p 8]) (gd p 5).rows.length 0 (fun k hk=>?_) ?_ (N:=(gd p 5).rows.length+1) (by omega)
 ·simp only [Int.natCast_zero,newSum,Int.add_zero] at e
  rw [e]
  rfl
 ·show i_roomL0 _ p [_,_,_,_,_,_,_,_,_,_,_,_,_,_,.i (k:Int),_,_,_,_,_,_,_,_,_]=_
  rw [i_roomR0]
  have h1:=newSum_in (gd p 3) (gd p 5) k
  have h2:=storeNew_in (gd p 3) (gd ((gd p 5).rows.getD k []) 1)
  simp only [int_i,c_lt hk,nd_ix hk,w64_succ hk (show (gd p 5).rows.length≤9223372036854775807 from by omega),Int.toNat_natCast]
  rw [w64_id (by omega) (by omega),Int.add_assoc]
  rfl
 ·show i_roomL0 _ p [_,_,_,_,_,_,_,_,_,_,_,_,_,.i ((gd p 5).rows.length:Int),.i ((gd p 5).rows.length:Int),_,_,_,_,_,_,_,_,_]=_
  rw [i_roomR0]
  simp only [int_i,c_nlt]
abbrev s_l13NewT:FuncId→List T→Option (T × Bool):=find [s_StoreNewE]
theorem s_l13NewT_ok:CallOk Tryz.prog s_l13NewT:=find_ok (fC ⟨s_StoreNew_ok,fN⟩)
abbrev s_l13NewK:List Nat:= [0,1,2,3,4,9]
noncomputable def s_l13NewL0 (N:Nat) (p:List D):List D→Out:=loopOf Tryz.prog s_l13NewT N s_l13NewK Tryz.f138 ri [⟨ag rIShard,p⟩] 0
theorem s_l13NewR0 (N:Nat) (p:List D) (x0 x1 x2 x3 x4 x5 x6 x7 x8 x9 x10 x11 x12 x13 x14 x15 x16 x17 x18 x19 x20 x21:D):(s_l13NewL0 N p) [x0,x1,x2,x3,x4,x5,x6,x7,x8,x9,x10,x11,x12,x13,x14,x15,x16,x17,x18,x19,x20,x21] =
 bif ltI x12.int (x18.rows.length:Int) then nd (inRange x12.int x18.rows.length) (nx [x0,x1,x2,x3,x4,x5,x6,x7,x8,x9,x10,.i (w64 (x11.int+(storeNew x16 (gd (x18.rows.getD x12.int.toNat []) 1)))),.i (w64 (x12.int+1)),x13,x14,x15,x16,x17,x18,x19,x20,x21])
 else ex 0 [x0,x1,x2,x3,x4,x5,x6,x7,x8,x9,x10,x11,x12,x13,x14,x15,x16,x17,x18,x19,x20,x21]:=by kernel_rfl
theorem s_l13New_ev (N:Nat) (p:List D):evFn Tryz.prog s_l13NewT N s_l13NewK Tryz.f138 ri [⟨ag rIShard,p⟩]=some (bo,
 (let o0:=iter (s_l13NewL0 N p) N [gd p 0,gd p 1,gd p 2,gd p 3,gd p 4,gd p 5,gd p 6,gd p 7,gd p 8,.i 0,.i 0,.i 0,.i 0,gd p 0,gd p 1,gd p 2,gd p 3,gd p 4,gd p 5,gd p 6,gd p 7,gd p 8]
  nd o0.isSome (nd (o0.code==2) (some (1,[gd o0.pay 11]))))):=by kernel_rfl
def s_l13NewE:Ent:=(138,e1 (ag rIShard) fun p=>(⟨ri,[.i (newSum (gd p 3) (gd p 5) (gd p 5).rows.length)]⟩,leI ((gd p 5).rows.length:Int) 1000000000))
theorem s_l13New_ok:EntOk Tryz.prog s_l13NewE:=e1_ok fun p h=>evFn_sound (N:=(gd p 5).rows.length+1) (ks:=s_l13NewK) (key:=bo) s_l13NewT_ok (enters Tryz.func138) Tryz.func138 fun hw=>by
 rw [s_l13New_ev]
 have h:leI ((gd p 5).rows.length:Int) 1000000000=true:=h
 simp only [leI,decide_eq_true_eq] at h
 have e:=run_loop (L:=s_l13NewL0 ((gd p 5).rows.length+1) p) (fun k => [gd p 0,gd p 1,gd p 2,gd p 3,gd p 4,gd p 5,gd p 6,gd p 7,gd p 8,.i 0,.i 0,.i (newSum (gd p 3) (gd p 5) k),.i (k:Int),gd p 0,gd p 1,gd p 2,gd p 3,gd p 4,gd p 5,gd p 6,gd p 7,gd p 8]) (gd p 5).rows.length 0 (fun k hk=>?_) ?_ (N:=(gd p 5).rows.length+1) (by omega)
 ·simp only [Int.natCast_zero,newSum] at e
  rw [e]
  rfl
 ·show s_l13NewL0 _ p [_,_,_,_,_,_,_,_,_,_,_,_,.i (k:Int),_,_,_,_,_,_,_,_,_]=_
  rw [s_l13NewR0]
  have h1:=newSum_in (gd p 3) (gd p 5) k
  have h2:=storeNew_in (gd p 3) (gd ((gd p 5).rows.getD k []) 1)
  simp only [int_i,c_lt hk,nd_ix hk,w64_succ hk (show (gd p 5).rows.length≤9223372036854775807 from by omega),Int.toNat_natCast]
  rw [w64_id (by omega) (by omega)]
  rfl
 ·show s_l13NewL0 _ p [_,_,_,_,_,_,_,_,_,_,_,_,.i ((gd p 5).rows.length:Int),_,_,_,_,_,_,_,_,_]=_
  rw [s_l13NewR0]
  simp only [int_i,c_nlt]
end Go.Proofs.YtchceahcaaibcaaGreat
namespace Go.Proofs.YtchceahcaaibcaaGreat
set_option maxRecDepth 4096
set_option maxHeartbeats 1000000
abbrev i_ShardOk_1T:FuncId→List T→Option (T × Bool):=find [i_haveAllE]
theorem i_ShardOk_1T_ok:CallOk Tryz.prog i_ShardOk_1T:=find_ok (fC ⟨i_haveAll_ok,fN⟩)
abbrev i_ShardOk_1K:List Nat:= [0,1,2,3]
theorem i_ShardOk_1_ev (N:Nat) (p q:List D):evFn Tryz.prog i_ShardOk_1T N i_ShardOk_1K Tryz.f167 rb [⟨ag rIRange,p⟩,⟨.one (.c (.cptr [si,.sl 122,.sl 122,.sl 176,.sl 138,.sl 248,.sl 3,.sl 3,si] 0)),q⟩]=some (bo,
 ob (!(haveAll (gd ((gd q 0).rows.getD 0 []) 1) (sub p 0 2)))):=by kernel_rfl
def i_ShardOk_1F (p q:List D):Bool:=
 !(haveAll (gd ((gd q 0).rows.getD 0 []) 1) (sub p 0 2))
def i_ShardOk_1E:Ent:=(167,e2 (ag rIRange) (.one (.c (.cptr [si,.sl 122,.sl 122,.sl 176,.sl 138,.sl 248,.sl 3,.sl 3,si] 0))) fun p q=>(⟨rb,[.b (i_ShardOk_1F p [gd q 0])]⟩,true))
theorem i_ShardOk_1_ok:EntOk Tryz.prog i_ShardOk_1E:=e2_ok fun p q h=>evFn_sound (N:=0) (ks:=i_ShardOk_1K) (key:=bo) i_ShardOk_1T_ok (enters Tryz.func167) Tryz.func167 fun hw=>by
 rw [i_ShardOk_1_ev]
 try simp only [cond_ob,cond_oi,cond_os]
 rfl
abbrev i_ShardOk_2T:FuncId→List T→Option (T × Bool):=find [i_oneE,i_haveAllE]
theorem i_ShardOk_2T_ok:CallOk Tryz.prog i_ShardOk_2T:=find_ok (fC ⟨i_one_ok,fC ⟨i_haveAll_ok,fN⟩⟩)
abbrev i_ShardOk_2K:List Nat:= [0,1,2,3]
theorem i_ShardOk_2_ev (N:Nat) (p q:List D):evFn Tryz.prog i_ShardOk_2T N i_ShardOk_2K Tryz.f169 rb [⟨ag rICell,p⟩,⟨.one (.c (.cptr [si,.sl 122,.sl 122,.sl 176,.sl 138,.sl 248,.sl 3,.sl 3,si] 0)),q⟩]=some (bo,
 ob (!(haveAll (gd ((gd q 0).rows.getD 0 []) 1) [(gd p 0),.i (w64 ((gd p 0).int+1))]))):=by kernel_rfl
def i_ShardOk_2F (p q:List D):Bool:=
 !(haveAll (gd ((gd q 0).rows.getD 0 []) 1) [(gd p 0),.i (w64 ((gd p 0).int+1))])
def i_ShardOk_2E:Ent:=(169,e2 (ag rICell) (.one (.c (.cptr [si,.sl 122,.sl 122,.sl 176,.sl 138,.sl 248,.sl 3,.sl 3,si] 0))) fun p q=>(⟨rb,[.b (i_ShardOk_2F p [gd q 0])]⟩,true))
theorem i_ShardOk_2_ok:EntOk Tryz.prog i_ShardOk_2E:=e2_ok fun p q h=>evFn_sound (N:=0) (ks:=i_ShardOk_2K) (key:=bo) i_ShardOk_2T_ok (enters Tryz.func169) Tryz.func169 fun hw=>by
 rw [i_ShardOk_2_ev]
 try simp only [cond_ob,cond_oi,cond_os]
 rfl
abbrev i_ShardOk_3T:FuncId→List T→Option (T × Bool):=find [i_LkeysE,i_haveAllE,coIE]
theorem i_ShardOk_3T_ok:CallOk Tryz.prog i_ShardOk_3T:=find_ok (fC ⟨i_Lkeys_ok,fC ⟨i_haveAll_ok,fC ⟨coI_ok,fN⟩⟩⟩)
abbrev i_ShardOk_3K:List Nat:= [0,1,2,3,4]
theorem i_ShardOk_3_ev (N:Nat) (p q r:List D):evFn Tryz.prog i_ShardOk_3T N i_ShardOk_3K Tryz.f172 rb [⟨ag rILock,p⟩,⟨.one (.c (.cptr [si,.sl 122,.sl 122,.sl 176,.sl 138,.sl 248,.sl 3,.sl 3,si] 0)),q⟩,⟨.one (.c (.cptr [.sl 3] 0)),r⟩]=some (bo,
 bif !(haveAll (gd ((gd q 0).rows.getD 0 []) 1) [(gd p 1),(gd p 2)]) then ob true
 else ob (hasInt (gd ((gd r 0).rows.getD 0 []) 0) (gd p 0).int)):=by kernel_rfl
def i_ShardOk_3F (p q r:List D):Bool:=
 bif !(haveAll (gd ((gd q 0).rows.getD 0 []) 1) [(gd p 1),(gd p 2)]) then true
 else hasInt (gd ((gd r 0).rows.getD 0 []) 0) (gd p 0).int
def i_ShardOk_3E:Ent:=(172,e3 (ag rILock) (.one (.c (.cptr [si,.sl 122,.sl 122,.sl 176,.sl 138,.sl 248,.sl 3,.sl 3,si] 0))) (.one (.c (.cptr [.sl 3] 0))) fun p q r=>(⟨rb,[.b (i_ShardOk_3F p [gd q 0] [gd r 0])]⟩,true))
theorem i_ShardOk_3_ok:EntOk Tryz.prog i_ShardOk_3E:=e3_ok fun p q r h=>evFn_sound (N:=0) (ks:=i_ShardOk_3K) (key:=bo) i_ShardOk_3T_ok (enters Tryz.func172) Tryz.func172 fun hw=>by
 rw [i_ShardOk_3_ev]
 try simp only [cond_ob,cond_oi,cond_os]
 rfl
abbrev ixfSFT:FuncId→List T→Option (T × Bool):=find [i_ShardOk_1E]
theorem ixfSFT_ok:CallOk Tryz.prog ixfSFT:=find_ok (fC ⟨i_ShardOk_1_ok,fN⟩)
abbrev ixfSFK:List Nat:= [0,1,4,5,7,8,9,16]
noncomputable def ixfSFL0 (N:Nat) (p q:List D):List D→Out:=loopOf Tryz.prog ixfSFT N ixfSFK Tryz.f264 ri [⟨sd (.sl 122),p⟩,⟨.one (.c (.fn 167 [.cptr [si,.sl 122,.sl 122,.sl 176,.sl 138,.sl 248,.sl 3,.sl 3,si] 0])),q⟩] 0
theorem ixfSFR0 (N:Nat) (p q:List D) (x0 x1 x2 x3 x4:D):(ixfSFL0 N p q) [x0,x1,x2,x3,x4] =
 bif ltI x4.int x3.int then nd (inRange x4.int x0.rows.length) (bif i_ShardOk_1F (sub (x0.rows.getD x4.int.toNat []) 0 2) [gd (x1.rows.getD 0 []) 0] then some (1,[x4])
 else nx [x0,x1,x2,x3,.i (w64 (x4.int+1))])
 else ex 0 [x0,x1,x2,x3,x4]:=by kernel_rfl
theorem ixfSF_ev (N:Nat) (p q:List D):evFn Tryz.prog ixfSFT N ixfSFK Tryz.f264 ri [⟨sd (.sl 122),p⟩,⟨.one (.c (.fn 167 [.cptr [si,.sl 122,.sl 122,.sl 176,.sl 138,.sl 248,.sl 3,.sl 3,si] 0])),q⟩]=some (bo,
 (let o0:=iter (ixfSFL0 N p q) N [gd p 0,gd q 0,.i 0,.i ((gd p 0).rows.length:Int),.i 0]
  nd o0.isSome (bif o0.code==1 then some (1,o0.pay)
  else nd (o0.code==2) (oi (-1))))):=by kernel_rfl
def ixfSFC (c:D) (r:List D):Bool:=i_ShardOk_1F r [gd (c.rows.getD 0 []) 0]
def ixfSFE:Ent:=(264,e2 (sd (.sl 122)) (.one (.c (.fn 167 [.cptr [si,.sl 122,.sl 122,.sl 176,.sl 138,.sl 248,.sl 3,.sl 3,si] 0]))) fun p q=>(⟨ri,[.i (ixF (fun k=>ixfSFC (gd q 0) (sub ((gd p 0).rows.getD k []) 0 2)) 0 (gd p 0).rows.length)]⟩,true))
theorem ixfSF_ok:EntOk Tryz.prog ixfSFE:=e2_ok fun p q h=>evFn_sound (N:=(gd p 0).rows.length+1) (ks:=ixfSFK) (key:=bo) ixfSFT_ok (enters Tryz.func264) Tryz.func264 fun hw=>by
 rw [ixfSF_ev]
 have hl:=wt_sl (hw ⟨sd (.sl 122),p⟩ (by simp))
 have e:=ix_loop (L:=ixfSFL0 ((gd p 0).rows.length+1) p q) (fun k => [gd p 0,gd q 0,.i 0,.i ((gd p 0).rows.length:Int),.i (k:Int)]) (gd p 0).rows.length (fun k=>ixfSFC (gd q 0) (sub ((gd p 0).rows.getD k []) 0 2)) [gd p 0,gd q 0,.i 0,.i ((gd p 0).rows.length:Int),.i ((gd p 0).rows.length:Int)] (fun k hk=>?_) ?_ (gd p 0).rows.length 0 ((gd p 0).rows.length+1) (by omega) (by omega)
 ·simp only [Int.natCast_zero] at e
  rw [e]
  have hno:=ixF_neg (fun k=>ixfSFC (gd q 0) (sub ((gd p 0).rows.getD k []) 0 2)) (gd p 0).rows.length 0
  cases hd:decide (ixF (fun k=>ixfSFC (gd q 0) (sub ((gd p 0).rows.getD k []) 0 2)) 0 (gd p 0).rows.length≥0)
  ·rw [hno hd]; rfl
  ·rfl
 ·show ixfSFL0 _ p q [_,_,_,_,.i (k:Int)]=_
  rw [ixfSFR0]
  simp only [int_i,c_lt hk,nd_ix hk,w64_succ hk hl,Int.toNat_natCast]
  unfold ixfSFC
  cases i_ShardOk_1F (sub ((gd p 0).rows.getD k []) 0 2) [gd ((gd q 0).rows.getD 0 []) 0] <;> rfl
 ·show ixfSFL0 _ p q [_,_,_,.i ((gd p 0).rows.length:Int),.i ((gd p 0).rows.length:Int)]=_
  rw [ixfSFR0]
  simp only [int_i,c_nlt]
abbrev cofSFT:FuncId→List T→Option (T × Bool):=find [ixfSFE,i_ShardOk_1E]
theorem cofSFT_ok:CallOk Tryz.prog cofSFT:=find_ok (fC ⟨ixfSF_ok,fC ⟨i_ShardOk_1_ok,fN⟩⟩)
abbrev cofSFK:List Nat:= [0,1,4]
theorem cofSF_ev (N:Nat) (p q:List D):evFn Tryz.prog cofSFT N cofSFK Tryz.f166 rb [⟨sd (.sl 122),p⟩,⟨.one (.c (.fn 167 [.cptr [si,.sl 122,.sl 122,.sl 176,.sl 138,.sl 248,.sl 3,.sl 3,si] 0])),q⟩]=some (bo,
 ob (leI 0 (ixF (fun k=>ixfSFC (.l [[gd ((gd q 0).rows.getD 0 []) 0]]) (sub ((gd p 0).rows.getD k []) 0 2)) 0 (gd p 0).rows.length))):=by kernel_rfl
def cofSFE:Ent:=(166,e2 (sd (.sl 122)) (.one (.c (.fn 167 [.cptr [si,.sl 122,.sl 122,.sl 176,.sl 138,.sl 248,.sl 3,.sl 3,si] 0]))) fun p q=>(⟨rb,[.b (anyS (fun rr=>ixfSFC (gd q 0) (sub rr 0 2)) (gd p 0))]⟩,true))
theorem cofSF_ok:EntOk Tryz.prog cofSFE:=e2_ok fun p q h=>evFn_sound (N:=0) (ks:=cofSFK) (key:=bo) cofSFT_ok (enters Tryz.func166) Tryz.func166 fun hw=>by
 rw [cofSF_ev]
 refine congrArg (fun x=>some (bo,ob x)) ?_
 exact (ixF_any (fun k=>ixfSFC (gd q 0) (sub ((gd p 0).rows.getD k []) 0 2)) (gd p 0).rows.length 0).trans (by simp only [Nat.zero_add]; rfl)
abbrev ixfSCT:FuncId→List T→Option (T × Bool):=find [i_ShardOk_2E]
theorem ixfSCT_ok:CallOk Tryz.prog ixfSCT:=find_ok (fC ⟨i_ShardOk_2_ok,fN⟩)
abbrev ixfSCK:List Nat:= [0,1,4,5,7,8,9,16]
noncomputable def ixfSCL0 (N:Nat) (p q:List D):List D→Out:=loopOf Tryz.prog ixfSCT N ixfSCK Tryz.f265 ri [⟨sd (.sl 176),p⟩,⟨.one (.c (.fn 169 [.cptr [si,.sl 122,.sl 122,.sl 176,.sl 138,.sl 248,.sl 3,.sl 3,si] 0])),q⟩] 0
theorem ixfSCR0 (N:Nat) (p q:List D) (x0 x1 x2 x3 x4:D):(ixfSCL0 N p q) [x0,x1,x2,x3,x4] =
 bif ltI x4.int x3.int then nd (inRange x4.int x0.rows.length) (bif i_ShardOk_2F (sub (x0.rows.getD x4.int.toNat []) 0 2) [gd (x1.rows.getD 0 []) 0] then some (1,[x4])
 else nx [x0,x1,x2,x3,.i (w64 (x4.int+1))])
 else ex 0 [x0,x1,x2,x3,x4]:=by kernel_rfl
theorem ixfSC_ev (N:Nat) (p q:List D):evFn Tryz.prog ixfSCT N ixfSCK Tryz.f265 ri [⟨sd (.sl 176),p⟩,⟨.one (.c (.fn 169 [.cptr [si,.sl 122,.sl 122,.sl 176,.sl 138,.sl 248,.sl 3,.sl 3,si] 0])),q⟩]=some (bo,
 (let o0:=iter (ixfSCL0 N p q) N [gd p 0,gd q 0,.i 0,.i ((gd p 0).rows.length:Int),.i 0]
  nd o0.isSome (bif o0.code==1 then some (1,o0.pay)
  else nd (o0.code==2) (oi (-1))))):=by kernel_rfl
def ixfSCC (c:D) (r:List D):Bool:=i_ShardOk_2F r [gd (c.rows.getD 0 []) 0]
def ixfSCE:Ent:=(265,e2 (sd (.sl 176)) (.one (.c (.fn 169 [.cptr [si,.sl 122,.sl 122,.sl 176,.sl 138,.sl 248,.sl 3,.sl 3,si] 0]))) fun p q=>(⟨ri,[.i (ixF (fun k=>ixfSCC (gd q 0) (sub ((gd p 0).rows.getD k []) 0 2)) 0 (gd p 0).rows.length)]⟩,true))
theorem ixfSC_ok:EntOk Tryz.prog ixfSCE:=e2_ok fun p q h=>evFn_sound (N:=(gd p 0).rows.length+1) (ks:=ixfSCK) (key:=bo) ixfSCT_ok (enters Tryz.func265) Tryz.func265 fun hw=>by
 rw [ixfSC_ev]
 have hl:=wt_sl (hw ⟨sd (.sl 176),p⟩ (by simp))
 have e:=ix_loop (L:=ixfSCL0 ((gd p 0).rows.length+1) p q) (fun k => [gd p 0,gd q 0,.i 0,.i ((gd p 0).rows.length:Int),.i (k:Int)]) (gd p 0).rows.length (fun k=>ixfSCC (gd q 0) (sub ((gd p 0).rows.getD k []) 0 2)) [gd p 0,gd q 0,.i 0,.i ((gd p 0).rows.length:Int),.i ((gd p 0).rows.length:Int)] (fun k hk=>?_) ?_ (gd p 0).rows.length 0 ((gd p 0).rows.length+1) (by omega) (by omega)
 ·simp only [Int.natCast_zero] at e
  rw [e]
  have hno:=ixF_neg (fun k=>ixfSCC (gd q 0) (sub ((gd p 0).rows.getD k []) 0 2)) (gd p 0).rows.length 0
  cases hd:decide (ixF (fun k=>ixfSCC (gd q 0) (sub ((gd p 0).rows.getD k []) 0 2)) 0 (gd p 0).rows.length≥0)
  ·rw [hno hd]; rfl
  ·rfl
 ·show ixfSCL0 _ p q [_,_,_,_,.i (k:Int)]=_
  rw [ixfSCR0]
  simp only [int_i,c_lt hk,nd_ix hk,w64_succ hk hl,Int.toNat_natCast]
  unfold ixfSCC
  cases i_ShardOk_2F (sub ((gd p 0).rows.getD k []) 0 2) [gd ((gd q 0).rows.getD 0 []) 0] <;> rfl
 ·show ixfSCL0 _ p q [_,_,_,.i ((gd p 0).rows.length:Int),.i ((gd p 0).rows.length:Int)]=_
  rw [ixfSCR0]
  simp only [int_i,c_nlt]
abbrev cofSCT:FuncId→List T→Option (T × Bool):=find [ixfSCE,i_ShardOk_2E]
theorem cofSCT_ok:CallOk Tryz.prog cofSCT:=find_ok (fC ⟨ixfSC_ok,fC ⟨i_ShardOk_2_ok,fN⟩⟩)
abbrev cofSCK:List Nat:= [0,1,4]
theorem cofSC_ev (N:Nat) (p q:List D):evFn Tryz.prog cofSCT N cofSCK Tryz.f168 rb [⟨sd (.sl 176),p⟩,⟨.one (.c (.fn 169 [.cptr [si,.sl 122,.sl 122,.sl 176,.sl 138,.sl 248,.sl 3,.sl 3,si] 0])),q⟩]=some (bo,
 ob (leI 0 (ixF (fun k=>ixfSCC (.l [[gd ((gd q 0).rows.getD 0 []) 0]]) (sub ((gd p 0).rows.getD k []) 0 2)) 0 (gd p 0).rows.length))):=by kernel_rfl
def cofSCE:Ent:=(168,e2 (sd (.sl 176)) (.one (.c (.fn 169 [.cptr [si,.sl 122,.sl 122,.sl 176,.sl 138,.sl 248,.sl 3,.sl 3,si] 0]))) fun p q=>(⟨rb,[.b (anyS (fun rr=>ixfSCC (gd q 0) (sub rr 0 2)) (gd p 0))]⟩,true))
theorem cofSC_ok:EntOk Tryz.prog cofSCE:=e2_ok fun p q h=>evFn_sound (N:=0) (ks:=cofSCK) (key:=bo) cofSCT_ok (enters Tryz.func168) Tryz.func168 fun hw=>by
 rw [cofSC_ev]
 refine congrArg (fun x=>some (bo,ob x)) ?_
 exact (ixF_any (fun k=>ixfSCC (gd q 0) (sub ((gd p 0).rows.getD k []) 0 2)) (gd p 0).rows.length 0).trans (by simp only [Nat.zero_add]; rfl)
abbrev ixfSLT:FuncId→List T→Option (T × Bool):=find [i_ShardOk_3E]
theorem ixfSLT_ok:CallOk Tryz.prog ixfSLT:=find_ok (fC ⟨i_ShardOk_3_ok,fN⟩)
abbrev ixfSLK:List Nat:= [0,1,4,5,7,8,9,16]
noncomputable def ixfSLL0 (N:Nat) (p q:List D):List D→Out:=loopOf Tryz.prog ixfSLT N ixfSLK Tryz.f267 ri [⟨sd (.sl 138),p⟩,⟨.one (.c (.fn 172 [.cptr [si,.sl 122,.sl 122,.sl 176,.sl 138,.sl 248,.sl 3,.sl 3,si] 0,.cptr [.sl 3] 0])),q⟩] 0
theorem ixfSLR0 (N:Nat) (p q:List D) (x0 x1 x2 x3 x4:D):(ixfSLL0 N p q) [x0,x1,x2,x3,x4] =
 bif ltI x4.int x3.int then nd (inRange x4.int x0.rows.length) (bif i_ShardOk_3F (sub (x0.rows.getD x4.int.toNat []) 0 4) [gd (x1.rows.getD 0 []) 0] [gd (x1.rows.getD 0 []).tail 0] then some (1,[x4])
 else nx [x0,x1,x2,x3,.i (w64 (x4.int+1))])
 else ex 0 [x0,x1,x2,x3,x4]:=by kernel_rfl
theorem ixfSL_ev (N:Nat) (p q:List D):evFn Tryz.prog ixfSLT N ixfSLK Tryz.f267 ri [⟨sd (.sl 138),p⟩,⟨.one (.c (.fn 172 [.cptr [si,.sl 122,.sl 122,.sl 176,.sl 138,.sl 248,.sl 3,.sl 3,si] 0,.cptr [.sl 3] 0])),q⟩]=some (bo,
 (let o0:=iter (ixfSLL0 N p q) N [gd p 0,gd q 0,.i 0,.i ((gd p 0).rows.length:Int),.i 0]
  nd o0.isSome (bif o0.code==1 then some (1,o0.pay)
  else nd (o0.code==2) (oi (-1))))):=by kernel_rfl
def ixfSLC (c:D) (r:List D):Bool:=i_ShardOk_3F r [gd (c.rows.getD 0 []) 0] [gd (c.rows.getD 0 []).tail 0]
def ixfSLE:Ent:=(267,e2 (sd (.sl 138)) (.one (.c (.fn 172 [.cptr [si,.sl 122,.sl 122,.sl 176,.sl 138,.sl 248,.sl 3,.sl 3,si] 0,.cptr [.sl 3] 0]))) fun p q=>(⟨ri,[.i (ixF (fun k=>ixfSLC (gd q 0) (sub ((gd p 0).rows.getD k []) 0 4)) 0 (gd p 0).rows.length)]⟩,true))
theorem ixfSL_ok:EntOk Tryz.prog ixfSLE:=e2_ok fun p q h=>evFn_sound (N:=(gd p 0).rows.length+1) (ks:=ixfSLK) (key:=bo) ixfSLT_ok (enters Tryz.func267) Tryz.func267 fun hw=>by
 rw [ixfSL_ev]
 have hl:=wt_sl (hw ⟨sd (.sl 138),p⟩ (by simp))
 have e:=ix_loop (L:=ixfSLL0 ((gd p 0).rows.length+1) p q) (fun k => [gd p 0,gd q 0,.i 0,.i ((gd p 0).rows.length:Int),.i (k:Int)]) (gd p 0).rows.length (fun k=>ixfSLC (gd q 0) (sub ((gd p 0).rows.getD k []) 0 4)) [gd p 0,gd q 0,.i 0,.i ((gd p 0).rows.length:Int),.i ((gd p 0).rows.length:Int)] (fun k hk=>?_) ?_ (gd p 0).rows.length 0 ((gd p 0).rows.length+1) (by omega) (by omega)
 ·simp only [Int.natCast_zero] at e
  rw [e]
  have hno:=ixF_neg (fun k=>ixfSLC (gd q 0) (sub ((gd p 0).rows.getD k []) 0 4)) (gd p 0).rows.length 0
  cases hd:decide (ixF (fun k=>ixfSLC (gd q 0) (sub ((gd p 0).rows.getD k []) 0 4)) 0 (gd p 0).rows.length≥0)
  ·rw [hno hd]; rfl
  ·rfl
 ·show ixfSLL0 _ p q [_,_,_,_,.i (k:Int)]=_
  rw [ixfSLR0]
  simp only [int_i,c_lt hk,nd_ix hk,w64_succ hk hl,Int.toNat_natCast]
  unfold ixfSLC
  cases i_ShardOk_3F (sub ((gd p 0).rows.getD k []) 0 4) [gd ((gd q 0).rows.getD 0 []) 0] [gd ((gd q 0).rows.getD 0 []).tail 0] <;> rfl
 ·show ixfSLL0 _ p q [_,_,_,.i ((gd p 0).rows.length:Int),.i ((gd p 0).rows.length:Int)]=_
  rw [ixfSLR0]
  simp only [int_i,c_nlt]
abbrev cofSLT:FuncId→List T→Option (T × Bool):=find [ixfSLE,i_ShardOk_3E]
theorem cofSLT_ok:CallOk Tryz.prog cofSLT:=find_ok (fC ⟨ixfSL_ok,fC ⟨i_ShardOk_3_ok,fN⟩⟩)
abbrev cofSLK:List Nat:= [0,1,4]
theorem cofSL_ev (N:Nat) (p q:List D):evFn Tryz.prog cofSLT N cofSLK Tryz.f171 rb [⟨sd (.sl 138),p⟩,⟨.one (.c (.fn 172 [.cptr [si,.sl 122,.sl 122,.sl 176,.sl 138,.sl 248,.sl 3,.sl 3,si] 0,.cptr [.sl 3] 0])),q⟩]=some (bo,
 ob (leI 0 (ixF (fun k=>ixfSLC (.l [[gd ((gd q 0).rows.getD 0 []) 0,gd ((gd q 0).rows.getD 0 []).tail 0]]) (sub ((gd p 0).rows.getD k []) 0 4)) 0 (gd p 0).rows.length))):=by kernel_rfl
def cofSLE:Ent:=(171,e2 (sd (.sl 138)) (.one (.c (.fn 172 [.cptr [si,.sl 122,.sl 122,.sl 176,.sl 138,.sl 248,.sl 3,.sl 3,si] 0,.cptr [.sl 3] 0]))) fun p q=>(⟨rb,[.b (anyS (fun rr=>ixfSLC (gd q 0) (sub rr 0 4)) (gd p 0))]⟩,true))
theorem cofSL_ok:EntOk Tryz.prog cofSLE:=e2_ok fun p q h=>evFn_sound (N:=0) (ks:=cofSLK) (key:=bo) cofSLT_ok (enters Tryz.func171) Tryz.func171 fun hw=>by
 rw [cofSL_ev]
 refine congrArg (fun x=>some (bo,ob x)) ?_
 exact (ixF_any (fun k=>ixfSLC (gd q 0) (sub ((gd p 0).rows.getD k []) 0 4)) (gd p 0).rows.length 0).trans (by simp only [Nat.zero_add]; rfl)
end Go.Proofs.YtchceahcaaibcaaGreat
