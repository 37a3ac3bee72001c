/-
 Texts of the proof,put together: part 5.
-/
import Derived.Test.YthbbbhpjkgpdcaaGreatOR1
import Derived.Test.YthbbbhpjkgpdcaaGreatOR2
import Derived.Test.YthbbbhpjkgpdcaaGreatOR3
import Derived.Test.YthbbbhpjkgpdcaaGreatOR4
import Derived.Test.YthbbbhpjkgpdcaaGreatProg
import Derived.WalkKit
import Derived.ProofKit
import Derived.Shelf.RegionOpenPlain
import Derived.Deep.RegionLaw
import Derived.Deep.LoopGhost
import Derived.Lib.SliceRun
import Derived.Lib.AppendZerosOnto
import Derived.Lib.Hide
import Derived.Laws.IdiomCopy
import Derived.OwnWalk
import Derived.Shelf.Spec.SlicesInsert
import Derived.Shelf.Sort.Plain
import Derived.Shelf.Slices.In.SortNone
import Derived.Shelf.Slices.CompactI
import Derived.Shelf.Slices.Clone
import Derived.Shelf.Spec.SlicesGrow
import Derived.Lib.SlicesCompact
import Derived.Lib.RowBridge
set_option linter.unusedSimpArgs false
set_option linter.unusedVariables false
set_option linter.unusedSectionVars false
namespace Go.Proofs.YthbbbhpjkgpdcaaGreat
set_option maxRecDepth 4096
set_option maxHeartbeats 1000000
def holdS (r:List D) (tx:D) (a:List D) (mode:D):Bool:=((gd r 0).int==tx.int)&&(s_RangeInF a [gd r 1,gd r 2]&&leI mode.int (gd r 3).int)
def holds (z tx:D) (a:List D) (mode:D):Bool:=(List.range z.rows.length).any fun k=>holdS (z.rows.getD k []) tx a mode
end Go.Proofs.YthbbbhpjkgpdcaaGreat
namespace Go.Proofs.YthbbbhpjkgpdcaaGreat
set_option maxRecDepth 4096
set_option maxHeartbeats 1000000
abbrev i_cellFor_1T:FuncId→List T→Option (T × Bool):=find []
theorem i_cellFor_1T_ok:CallOk Tryz.prog i_cellFor_1T:=find_ok (fN)
abbrev i_cellFor_1K:List Nat:= [0,1,2,4]
theorem i_cellFor_1_ev (N:Nat) (p q:List D):evFn Tryz.prog i_cellFor_1T N i_cellFor_1K Tryz.f170 ri [⟨ag rICell,p⟩,⟨ri,q⟩]=some (bo,
 oi (w64 ((gd p 0).int - (gd q 0).int))):=by kernel_rfl
def i_cellFor_1E:Ent:=(170,e2 (ag rICell) ri fun p q=>(⟨ri,[.i (w64 ((gd p 0).int - (gd q 0).int))]⟩,true))
theorem i_cellFor_1_ok:EntOk Tryz.prog i_cellFor_1E:=e2_ok fun p q h=>evFn_sound (N:=0) (ks:=i_cellFor_1K) (key:=bo) i_cellFor_1T_ok (enters Tryz.func170) Tryz.func170 fun hw=>by
 rw [i_cellFor_1_ev]
 skip
def keyAt (z:D) (k:Nat):Int:=(gd (z.rows.getD k []) 0).int
def lowN (z:D) (t:Int):Nat:=cnt (fun k=>ltI (keyAt z k) t) 0 z.rows.length
def bsB (z:D) (t:Int):Bool:=ltI (lowN z t:Int) (z.rows.length:Int)&&(keyAt z (lowN z t)==t)
theorem cnt_add (C:Nat→Bool):∀ b k a,cnt C k (a+b)=cnt C k a+cnt C (k+a) b
 | 0,k,a=>rfl
 | b+1,k,a=>by
  rw [← Nat.add_assoc,cnt_succ,cnt_succ,cnt_add C b k a,Nat.add_assoc,Nat.add_assoc]
theorem cnt_yes {C:Nat→Bool}:∀ m k,(∀ j,j<m→C (k+j)=true)→cnt C k m=m
 | 0,_,_=>rfl
 | m+1,k,h=>by rw [cnt_succ,cnt_yes m k (fun j hj=>h j (by omega)),h m (by omega)]; rfl
theorem cnt_no {C:Nat→Bool}:∀ m k,(∀ j,j<m→C (k+j)=false)→cnt C k m=0
 | 0,_,_=>rfl
 | m+1,k,h=>by rw [cnt_succ,cnt_no m k (fun j hj=>h j (by omega)),h m (by omega)]; rfl
theorem lowN_eq {z:D} {t:Int} {i:Nat} (hi:i≤z.rows.length) (h1:∀ k,k<i→keyAt z k<t) (h2:∀ k,i≤k→k<z.rows.length→t≤keyAt z k):lowN z t=i:=by
 unfold lowN
 obtain ⟨m,hm⟩:∃ m,z.rows.length=i+m:=⟨z.rows.length - i,by omega⟩
 rw [hm,cnt_add,cnt_yes i 0 (fun j hj=>by rw [Nat.zero_add]; exact ltI_t (h1 j hj)),cnt_no m (0+i) (fun j hj=>by rw [Nat.zero_add]; exact ltI_f (h2 (i+j) (by omega) (by omega)))]
 omega
structure Sorted (z:D):Prop where
 len:z.rows.length≤60
 key:∀ k,k<z.rows.length→0≤keyAt z k∧keyAt z k≤999
 lt:∀ i j,i<j→j<z.rows.length→keyAt z i<keyAt z j
theorem u64_id {x:Int} (h:0≤x) (h':x≤9223372036854775807):IntKind.u64.wrap x=x:=by
 simp only [IntKind.wrap,IntKind.signed,IntKind.bits]
 simp
 omega
theorem half {i j:Nat} (h:i+j≤1000):w64 ((IntKind.u64.wrap (w64 ((i:Int)+(j:Int)))).fdiv (2 ^ (min 1 64)))=(((i+j) / 2:Nat):Int):=by
 rw [w64_id (x:=(i:Int)+j) (by omega) (by omega),u64_id (by omega) (by omega),show ((2:Int) ^ (min 1 64))=((2:Nat):Int) from rfl,show ((i:Int)+(j:Int))=((i+j:Nat):Int) from by omega,← Int.ofNat_fdiv,w64_id (by omega) (by omega)]
def valD (z:D) (t:Int):D:=bif bsB z t then gd (z.rows.getD (lowN z t) []) 1 else .i (-1)
theorem scan_at {ex:Nat→Option (Nat × List D)} {o:Nat × List D}:∀ (m k i:Nat),i<m→ex (k+i)=some o→(∀ j,j<i→ex (k+j)=none)→scan ex k m=some o
 | 0,_,_,h,_,_=>absurd h (Nat.not_lt_zero _)
 | m+1,k,0,_,h,_=>by rw [scan,show ex k=some o from h]
 | m+1,k,i+1,hi,h,hn=>by
  rw [scan,show ex k=none from hn 0 (by omega)]
  exact scan_at m (k+1) i (by omega) (by rw [show k+1+i=k+(i+1) from by omega]; exact h) fun j hj=>by rw [show k+1+j=k+(j+1) from by omega]; exact hn (j+1) (by omega)
theorem scan_no {ex:Nat→Option (Nat × List D)}:∀ (m k:Nat),(∀ j,j<m→ex (k+j)=none)→scan ex k m=none
 | 0,_,_=>rfl
 | m+1,k,h=>by
  rw [scan,show ex k=none from h 0 (by omega)]
  exact scan_no m (k+1) fun j hj=>by rw [show k+1+j=k+(j+1) from by omega]; exact h (j+1) (by omega)
end Go.Proofs.YthbbbhpjkgpdcaaGreat
namespace Go.Proofs.YthbbbhpjkgpdcaaGreat
set_option maxRecDepth 4096
set_option maxHeartbeats 1000000
end Go.Proofs.YthbbbhpjkgpdcaaGreat
namespace Go.Proofs.YthbbbhpjkgpdcaaGreat
set_option maxRecDepth 4096
set_option maxHeartbeats 1000000
abbrev i_CmdOkT:FuncId→List T→Option (T × Bool):=find [i_isWholeE]
theorem i_CmdOkT_ok:CallOk Tryz.prog i_CmdOkT:=find_ok (fC ⟨i_isWhole_ok,fN⟩)
abbrev i_CmdOkK:List Nat:= [0,1,2,4,5,16]
theorem i_CmdOk_ev (N:Nat) (p:List D):evFn Tryz.prog i_CmdOkT N i_CmdOkK Tryz.f130 rb [⟨ag rICmd,p⟩]=some (bo,
 bif (gd p 0).int==1 then bif (gd p 0).int==1 then bif inB (gd p 1).int (0) (1000000000) then ob ((gd p 2).int==0)
 else ob false
 else bif (gd p 0).int==2 then bif (gd p 0).int==2 then bif inB (gd p 1).int (0) (1000000000) then ob (inB (gd p 2).int (0) (1000000000))
 else ob false
 else ob false
 else bif (gd p 0).int==3 then bif inB (gd p 1).int (0) (1000000000) then ob (inB (gd p 2).int (0) (1000000000))
 else ob false
 else ob false
 else bif (gd p 0).int==4 then bif inB (gd p 1).int (0) (1000000000) then ob ((gd p 2).int==0)
 else ob false
 else bif (gd p 0).int==2 then bif (gd p 0).int==2 then bif inB (gd p 1).int (0) (1000000000) then ob (inB (gd p 2).int (0) (1000000000))
 else ob false
 else ob false
 else bif (gd p 0).int==3 then bif inB (gd p 1).int (0) (1000000000) then ob (inB (gd p 2).int (0) (1000000000))
 else ob false
 else ob false):=by kernel_rfl
def cmdOk (p:List D):Bool:=
 bif (gd p 0).int==1||(gd p 0).int==4 then inB (gd p 1).int 0 1000000000&&(gd p 2).int==0
 else bif (gd p 0).int==2||(gd p 0).int==3 then inB (gd p 1).int 0 1000000000&&inB (gd p 2).int 0 1000000000
 else false
def i_CmdOkE:Ent:=(130,e1 (ag rICmd) fun p=>(⟨rb,[.b (cmdOk p)]⟩,true))
theorem i_CmdOk_ok:EntOk Tryz.prog i_CmdOkE:=e1_ok fun p h=>evFn_sound (N:=0) (ks:=i_CmdOkK) (key:=bo) i_CmdOkT_ok (enters Tryz.func130) Tryz.func130 fun hw=>by
 rw [i_CmdOk_ev]
 unfold cmdOk
 by_cases h1:(gd p 0).int=1
 ·rw [h1]; cases inB (gd p 1).int 0 1000000000 <;> rfl
 by_cases h2:(gd p 0).int=2
 ·rw [h2]; cases inB (gd p 1).int 0 1000000000 <;> rfl
 by_cases h3:(gd p 0).int=3
 ·rw [h3]; cases inB (gd p 1).int 0 1000000000 <;> rfl
 by_cases h4:(gd p 0).int=4
 ·rw [h4]; cases inB (gd p 1).int 0 1000000000 <;> rfl
 rw [beq_eq_false_iff_ne.2 h1,beq_eq_false_iff_ne.2 h2,beq_eq_false_iff_ne.2 h3,beq_eq_false_iff_ne.2 h4]
 rfl
abbrev s_CmdOkT:FuncId→List T→Option (T × Bool):=find [s_l1WholeE]
theorem s_CmdOkT_ok:CallOk Tryz.prog s_CmdOkT:=find_ok (fC ⟨s_l1Whole_ok,fN⟩)
abbrev s_CmdOkK:List Nat:= [0,1,2,4,5,16]
theorem s_CmdOk_ev (N:Nat) (p:List D):evFn Tryz.prog s_CmdOkT N s_CmdOkK Tryz.f111 rb [⟨ag rICmd,p⟩]=some (bo,
 bif (gd p 0).int==2 then bif (gd p 0).int==2 then bif inB (gd p 1).int (0) (1000000000) then ob (inB (gd p 2).int (0) (1000000000))
 else ob false
 else bif (gd p 0).int==1 then bif (gd p 0).int==1 then bif inB (gd p 1).int (0) (1000000000) then ob ((gd p 2).int==0)
 else ob false
 else ob false
 else bif (gd p 0).int==4 then bif inB (gd p 1).int (0) (1000000000) then ob ((gd p 2).int==0)
 else ob false
 else ob false
 else bif (gd p 0).int==3 then bif inB (gd p 1).int (0) (1000000000) then ob (inB (gd p 2).int (0) (1000000000))
 else ob false
 else bif (gd p 0).int==1 then bif (gd p 0).int==1 then bif inB (gd p 1).int (0) (1000000000) then ob ((gd p 2).int==0)
 else ob false
 else ob false
 else bif (gd p 0).int==4 then bif inB (gd p 1).int (0) (1000000000) then ob ((gd p 2).int==0)
 else ob false
 else ob false):=by kernel_rfl
def s_CmdOkE:Ent:=(111,e1 (ag rICmd) fun p=>(⟨rb,[.b (cmdOk p)]⟩,true))
theorem s_CmdOk_ok:EntOk Tryz.prog s_CmdOkE:=e1_ok fun p h=>evFn_sound (N:=0) (ks:=s_CmdOkK) (key:=bo) s_CmdOkT_ok (enters Tryz.func111) Tryz.func111 fun hw=>by
 rw [s_CmdOk_ev]
 unfold cmdOk
 by_cases h1:(gd p 0).int=1
 ·rw [h1]; cases inB (gd p 1).int 0 1000000000 <;> rfl
 by_cases h2:(gd p 0).int=2
 ·rw [h2]; cases inB (gd p 1).int 0 1000000000 <;> rfl
 by_cases h3:(gd p 0).int=3
 ·rw [h3]; cases inB (gd p 1).int 0 1000000000 <;> rfl
 by_cases h4:(gd p 0).int=4
 ·rw [h4]; cases inB (gd p 1).int 0 1000000000 <;> rfl
 rw [beq_eq_false_iff_ne.2 h1,beq_eq_false_iff_ne.2 h2,beq_eq_false_iff_ne.2 h3,beq_eq_false_iff_ne.2 h4]
 rfl
abbrev i_EntryOkT:FuncId→List T→Option (T × Bool):=find [i_isWholeE,i_isReqE,i_CmdOkE]
theorem i_EntryOkT_ok:CallOk Tryz.prog i_EntryOkT:=find_ok (fC ⟨i_isWhole_ok,fC ⟨i_isReq_ok,fC ⟨i_CmdOk_ok,fN⟩⟩⟩)
abbrev i_EntryOkK:List Nat:= [0,1,2]
theorem i_EntryOk_ev (N:Nat) (p:List D):evFn Tryz.prog i_EntryOkT N i_EntryOkK Tryz.f138 rb [⟨ag rIEntry,p⟩]=some (bo,
 bif inB (gd p 0).int (0) (1000000000) then bif inB (gd p 1).int (1) (1000000000) then ob (cmdOk (sub p 2 3))
 else ob false
 else ob false):=by kernel_rfl
def entryOk (p:List D):Bool:=inB (gd p 0).int 0 1000000000&&(inB (gd p 1).int 1 1000000000&&cmdOk (sub p 2 3))
def i_EntryOkE:Ent:=(138,e1 (ag rIEntry) fun p=>(⟨rb,[.b (entryOk p)]⟩,true))
theorem i_EntryOk_ok:EntOk Tryz.prog i_EntryOkE:=e1_ok fun p h=>evFn_sound (N:=0) (ks:=i_EntryOkK) (key:=bo) i_EntryOkT_ok (enters Tryz.func138) Tryz.func138 fun hw=>by
 rw [i_EntryOk_ev]
 unfold entryOk
 cases inB (gd p 0).int 0 1000000000 <;> cases inB (gd p 1).int 1 1000000000 <;> rfl
abbrev s_EntryOkT:FuncId→List T→Option (T × Bool):=find [s_l1WholeE,s_l1InE,s_CmdOkE]
theorem s_EntryOkT_ok:CallOk Tryz.prog s_EntryOkT:=find_ok (fC ⟨s_l1Whole_ok,fC ⟨s_l1In_ok,fC ⟨s_CmdOk_ok,fN⟩⟩⟩)
abbrev s_EntryOkK:List Nat:= [0,1,2]
theorem s_EntryOk_ev (N:Nat) (p:List D):evFn Tryz.prog s_EntryOkT N s_EntryOkK Tryz.f113 rb [⟨ag rIEntry,p⟩]=some (bo,
 bif inB (gd p 0).int (0) (1000000000) then bif inB (gd p 1).int 1 1000000000 then ob (cmdOk (sub p 2 3))
 else ob false
 else ob false):=by kernel_rfl
def s_EntryOkE:Ent:=(113,e1 (ag rIEntry) fun p=>(⟨rb,[.b (entryOk p)]⟩,true))
theorem s_EntryOk_ok:EntOk Tryz.prog s_EntryOkE:=e1_ok fun p h=>evFn_sound (N:=0) (ks:=s_EntryOkK) (key:=bo) s_EntryOkT_ok (enters Tryz.func113) Tryz.func113 fun hw=>by
 rw [s_EntryOk_ev]
 unfold entryOk
 cases inB (gd p 0).int 0 1000000000 <;> cases inB (gd p 1).int 1 1000000000 <;> rfl
abbrev i_ImageOkT:FuncId→List T→Option (T × Bool):=find [i_isWholeE,i_isReqE,i_isAnswerE]
theorem i_ImageOkT_ok:CallOk Tryz.prog i_ImageOkT:=find_ok (fC ⟨i_isWhole_ok,fC ⟨i_isReq_ok,fC ⟨i_isAnswer_ok,fN⟩⟩⟩)
abbrev i_ImageOkK:List Nat:= [0,1,2,3,4,5,6,8,9,10,11,40,43,44,45,46,81]
noncomputable def i_ImageOkL0 (N:Nat) (p:List D):List D→Out:=loopOf Tryz.prog i_ImageOkT N i_ImageOkK Tryz.f86 rb [⟨ag rIImage,p⟩] 0
noncomputable def i_ImageOkL2 (N:Nat) (p:List D):List D→Out:=loopOf Tryz.prog i_ImageOkT N i_ImageOkK Tryz.f86 rb [⟨ag rIImage,p⟩] 2
theorem i_ImageOkR0 (N:Nat) (p:List D) (x0 x1 x2 x3 x4 x5 x6 x7 x8:D):(i_ImageOkL0 N p) [x0,x1,x2,x3,x4,x5,x6,x7,x8] =
 bif ltI x6.int x5.int then nd (inRange x6.int x4.rows.length) (bif !(inB (gd (x4.rows.getD x6.int.toNat []) 0).int (0) (1000000000)) then ob false
 else bif !(inB (gd (x4.rows.getD x6.int.toNat []) 1).int (0) (1000000000)) then ob false
 else bif ltI 0 x6.int then nd (inRange (w64 (x6.int - 1)) x7.rows.length) (bif leI (gd (x4.rows.getD x6.int.toNat []) 0).int (gd (x7.rows.getD (w64 (x6.int - 1)).toNat []) 0).int then ob false
 else nx [x0,x1,x2,x3,x4,x5,.i (w64 (x6.int+1)),x7,x8])
 else nx [x0,x1,x2,x3,x4,x5,.i (w64 (x6.int+1)),x7,x8])
 else ex 0 [x0,x1,x2,x3,x4,x5,x6,x7,x8]:=by kernel_rfl
theorem i_ImageOkR2 (N:Nat) (p:List D) (x0 x1 x2 x3 x4 x5 x6 x7 x8 x9 x10 x11:D):(i_ImageOkL2 N p) [x0,x1,x2,x3,x4,x5,x6,x7,x8,x9,x10,x11] =
 bif ltI x9.int x8.int then nd (inRange x9.int x7.rows.length) (bif !(inB (gd (x7.rows.getD x9.int.toNat []) 0).int (0) (1000000000)) then ob false
 else bif !(inB (gd (x7.rows.getD x9.int.toNat []) 1).int (1) (1000000000)) then ob false
 else bif !(inB (gd (x7.rows.getD x9.int.toNat []) 2).int (-1) (1000000000)) then ob false
 else bif ltI 0 x9.int then nd (inRange (w64 (x9.int - 1)) x11.rows.length) (bif leI (gd (x7.rows.getD x9.int.toNat []) 0).int (gd (x11.rows.getD (w64 (x9.int - 1)).toNat []) 0).int then ob false
 else nx [x0,x1,x2,x3,x4,x5,x6,x7,x8,.i (w64 (x9.int+1)),x10,x11])
 else nx [x0,x1,x2,x3,x4,x5,x6,x7,x8,.i (w64 (x9.int+1)),x10,x11])
 else ex 2 [x0,x1,x2,x3,x4,x5,x6,x7,x8,x9,x10,x11]:=by kernel_rfl
theorem i_ImageOk_ev (N:Nat) (p:List D):evFn Tryz.prog i_ImageOkT N i_ImageOkK Tryz.f86 rb [⟨ag rIImage,p⟩]=some (bo,
 (let o0:=iter (i_ImageOkL0 N p) N [gd p 0,gd p 1,.i 0,.i 0,gd p 0,.i ((gd p 0).rows.length:Int),.i 0,gd p 0,gd p 1]
  nd o0.isSome (bif o0.code==1 then some (1,o0.pay)
  else nd (o0.code==2) ((let o2:=iter (i_ImageOkL2 N p) N [gd o0.pay 0,gd o0.pay 1,gd o0.pay 2,gd o0.pay 3,gd o0.pay 4,gd o0.pay 5,gd o0.pay 6,gd o0.pay 8,.i ((gd o0.pay 8).rows.length:Int),.i 0,gd o0.pay 7,gd o0.pay 8]
  nd o2.isSome (bif o2.code==1 then some (1,o2.pay)
  else nd (o2.code==4) (bif leI ((gd o2.pay 10).rows.length:Int) 40 then ob (leI ((gd o2.pay 11).rows.length:Int) 10)
  else ob false))))))):=by kernel_rfl
def cellAtB (z:D):Nat→Bool
 | 0=>inB (gd (z.rows.getD 0 []) 0).int 0 1000000000&&(inB (gd (z.rows.getD 0 []) 1).int 0 1000000000)
 | k+1=>inB (gd (z.rows.getD (k+1) []) 0).int 0 1000000000&&(inB (gd (z.rows.getD (k+1) []) 1).int 0 1000000000&&(!leI (gd (z.rows.getD (k+1) []) 0).int (gd (z.rows.getD k []) 0).int))
def seatAtB (z:D):Nat→Bool
 | 0=>inB (gd (z.rows.getD 0 []) 0).int 0 1000000000&&(inB (gd (z.rows.getD 0 []) 1).int 1 1000000000&&(inB (gd (z.rows.getD 0 []) 2).int (-1) 1000000000))
 | k+1=>inB (gd (z.rows.getD (k+1) []) 0).int 0 1000000000&&(inB (gd (z.rows.getD (k+1) []) 1).int 1 1000000000&&(inB (gd (z.rows.getD (k+1) []) 2).int (-1) 1000000000&&(!leI (gd (z.rows.getD (k+1) []) 0).int (gd (z.rows.getD k []) 0).int)))
def imOk (p:List D):Bool:=(List.range (gd p 0).rows.length).all (cellAtB (gd p 0))&&((List.range (gd p 1).rows.length).all (seatAtB (gd p 1))&&(leI ((gd p 0).rows.length:Int) 40&&leI ((gd p 1).rows.length:Int) 10))
def i_ImageOkE:Ent:=(86,e1 (ag rIImage) fun p=>(⟨rb,[.b (imOk p)]⟩,true))
theorem i_ImageOk_ok:EntOk Tryz.prog i_ImageOkE:=e1_ok fun p h=>evFn_sound (N:=(gd p 0).rows.length+(gd p 1).rows.length+1) (ks:=i_ImageOkK) (key:=bo) i_ImageOkT_ok (enters Tryz.func86) Tryz.func86 fun hw=>by
 rw [i_ImageOk_ev]
 have hl0:=wt_at (hw ⟨ag rIImage,p⟩ (by simp)) (j:=0) rfl
 have hl2:=wt_at (hw ⟨ag rIImage,p⟩ (by simp)) (j:=1) rfl
 have e0:=for_loop (L:=i_ImageOkL0 ((gd p 0).rows.length+(gd p 1).rows.length+1) p) (fun k => [gd p 0,gd p 1,.i 0,.i 0,gd p 0,.i ((gd p 0).rows.length:Int),.i (k:Int),gd p 0,gd p 1]) (gd p 0).rows.length (cellAtB (gd p 0)) [.b false] 0 (fun k hk=>?_) ?_ (N:=((gd p 0).rows.length+(gd p 1).rows.length+1)) (by omega)
 ·simp only [Int.natCast_zero] at e0
  rw [e0]
  unfold imOk
  cases (List.range (gd p 0).rows.length).all (cellAtB (gd p 0)) with
  | false=>rfl
  | true =>
  have e2:=for_loop (L:=i_ImageOkL2 ((gd p 0).rows.length+(gd p 1).rows.length+1) p) (fun k => [gd p 0,gd p 1,.i 0,.i 0,gd p 0,.i ((gd p 0).rows.length:Int),.i ((gd p 0).rows.length:Int),gd p 1,.i ((gd p 1).rows.length:Int),.i (k:Int),gd p 0,gd p 1]) (gd p 1).rows.length (seatAtB (gd p 1)) [.b false] 2 (fun k hk=>?_) ?_ (N:=((gd p 0).rows.length+(gd p 1).rows.length+1)) (by omega)
  ·simp only [Int.natCast_zero] at e2
   simp only [nd,cond_true,cond_false,Option.isSome_some,Out.code,Out.pay,Option.getD_some,gd_cons_zero,gd_cons_succ,Nat.reduceBEq,Nat.reduceAdd,int_i,bool_b,str_s,rows_l,Bool.not_true,Bool.not_false,beq_self_eq_true]
   rw [e2]
   cases (List.range (gd p 1).rows.length).all (seatAtB (gd p 1)) with
   | false=>rfl
   | true =>
    simp only [nd,cond_true,cond_false,Option.isSome_some,Out.code,Out.pay,Option.getD_some,gd_cons_zero,gd_cons_succ,Nat.reduceBEq,Nat.reduceAdd,int_i,bool_b,str_s,rows_l,Bool.not_true,Bool.not_false,beq_self_eq_true]
    cases leI ((gd p 0).rows.length:Int) 40 <;> rfl
  ·cases k with
   | zero =>
    show i_ImageOkL2 _ p [_,_,_,_,_,_,_,_,_,.i ((0:Nat):Int),_,_]=_
    rw [i_ImageOkR2]
    simp only [int_i,c_lt hk,nd_ix hk,w64_succ hk hl2,Int.toNat_natCast,bne_not,ltI_00,seatAtB]
    cases inB (gd ((gd p 1).rows.getD 0 []) 0).int 0 1000000000 <;> cases inB (gd ((gd p 1).rows.getD 0 []) 1).int 1 1000000000 <;> cases inB (gd ((gd p 1).rows.getD 0 []) 2).int (-1) 1000000000 <;> rfl
   | succ k =>
    show i_ImageOkL2 _ p [_,_,_,_,_,_,_,_,_,.i ((k+1:Nat):Int),_,_]=_
    rw [i_ImageOkR2]
    simp only [int_i,c_lt hk,nd_ix hk,w64_succ hk hl2,Int.toNat_natCast,bne_not,ltI_0s,w64_pred (show k+1≤9223372036854775807 from by omega),nd_ix (Nat.lt_of_succ_lt hk),seatAtB]
    cases inB (gd ((gd p 1).rows.getD (k+1) []) 0).int 0 1000000000 <;> cases inB (gd ((gd p 1).rows.getD (k+1) []) 1).int 1 1000000000 <;> cases inB (gd ((gd p 1).rows.getD (k+1) []) 2).int (-1) 1000000000 <;> cases leI (gd ((gd p 1).rows.getD (k+1) []) 0).int (gd ((gd p 1).rows.getD k []) 0).int <;> rfl
  ·show i_ImageOkL2 _ p [_,_,_,_,_,_,_,_,.i ((gd p 1).rows.length:Int),.i ((gd p 1).rows.length:Int),_,_]=_
   rw [i_ImageOkR2]
   simp only [int_i,c_nlt]
 ·cases k with
  | zero =>
   show i_ImageOkL0 _ p [_,_,_,_,_,_,.i ((0:Nat):Int),_,_]=_
   rw [i_ImageOkR0]
   simp only [int_i,c_lt hk,nd_ix hk,w64_succ hk hl0,Int.toNat_natCast,bne_not,ltI_00,cellAtB]
   cases inB (gd ((gd p 0).rows.getD 0 []) 0).int 0 1000000000 <;> cases inB (gd ((gd p 0).rows.getD 0 []) 1).int 0 1000000000 <;> rfl
  | succ k =>
   show i_ImageOkL0 _ p [_,_,_,_,_,_,.i ((k+1:Nat):Int),_,_]=_
   rw [i_ImageOkR0]
   simp only [int_i,c_lt hk,nd_ix hk,w64_succ hk hl0,Int.toNat_natCast,bne_not,ltI_0s,w64_pred (show k+1≤9223372036854775807 from by omega),nd_ix (Nat.lt_of_succ_lt hk),cellAtB]
   cases inB (gd ((gd p 0).rows.getD (k+1) []) 0).int 0 1000000000 <;> cases inB (gd ((gd p 0).rows.getD (k+1) []) 1).int 0 1000000000 <;> cases leI (gd ((gd p 0).rows.getD (k+1) []) 0).int (gd ((gd p 0).rows.getD k []) 0).int <;> rfl
 ·show i_ImageOkL0 _ p [_,_,_,_,_,.i ((gd p 0).rows.length:Int),.i ((gd p 0).rows.length:Int),_,_]=_
  rw [i_ImageOkR0]
  simp only [int_i,c_nlt]
abbrev s_ImageOkT:FuncId→List T→Option (T × Bool):=find [s_l1WholeE,s_l1InE]
theorem s_ImageOkT_ok:CallOk Tryz.prog s_ImageOkT:=find_ok (fC ⟨s_l1Whole_ok,fC ⟨s_l1In_ok,fN⟩⟩)
abbrev s_ImageOkK:List Nat:= [0,1,2,3,4,5,15,20,60,65,104]
noncomputable def s_ImageOkL0 (N:Nat) (p:List D):List D→Out:=loopOf Tryz.prog s_ImageOkT N s_ImageOkK Tryz.f68 rb [⟨ag rIImage,p⟩] 0
noncomputable def s_ImageOkL2 (N:Nat) (p:List D):List D→Out:=loopOf Tryz.prog s_ImageOkT N s_ImageOkK Tryz.f68 rb [⟨ag rIImage,p⟩] 2
theorem s_ImageOkR0 (N:Nat) (p:List D) (x0 x1 x2 x3 x4 x5 x6 x7:D):(s_ImageOkL0 N p) [x0,x1,x2,x3,x4,x5,x6,x7] =
 bif ltI x5.int (x6.rows.length:Int) then nd (inRange x5.int x6.rows.length) (bif !(inB (gd (x6.rows.getD x5.int.toNat []) 0).int (0) (1000000000)) then ob false
 else nd (inRange x5.int x6.rows.length) (bif !(inB (gd (x6.rows.getD x5.int.toNat []) 1).int (0) (1000000000)) then ob false
 else bif ltI 0 x5.int then nd (inRange (w64 (x5.int - 1)) x6.rows.length) (nd (inRange x5.int x6.rows.length) (bif leI (gd (x6.rows.getD x5.int.toNat []) 0).int (gd (x6.rows.getD (w64 (x5.int - 1)).toNat []) 0).int then ob false
 else nx [x0,x1,x2,x3,x4,.i (w64 (x5.int+1)),x6,x7]))
 else nx [x0,x1,x2,x3,x4,.i (w64 (x5.int+1)),x6,x7]))
 else ex 0 [x0,x1,x2,x3,x4,x5,x6,x7]:=by kernel_rfl
theorem s_ImageOkR2 (N:Nat) (p:List D) (x0 x1 x2 x3 x4 x5 x6 x7 x8:D):(s_ImageOkL2 N p) [x0,x1,x2,x3,x4,x5,x6,x7,x8] =
 bif ltI x6.int (x8.rows.length:Int) then nd (inRange x6.int x8.rows.length) (bif !(inB (gd (x8.rows.getD x6.int.toNat []) 0).int (0) (1000000000)) then ob false
 else bif !(inB (gd (x8.rows.getD x6.int.toNat []) 1).int 1 1000000000) then ob false
 else bif !(inB (gd (x8.rows.getD x6.int.toNat []) 2).int (-1) 1000000000) then ob false
 else bif ltI 0 x6.int then nd (inRange (w64 (x6.int - 1)) x8.rows.length) (bif leI (gd (x8.rows.getD x6.int.toNat []) 0).int (gd (x8.rows.getD (w64 (x6.int - 1)).toNat []) 0).int then ob false
 else nx [x0,x1,x2,x3,x4,x5,.i (w64 (x6.int+1)),x7,x8])
 else nx [x0,x1,x2,x3,x4,x5,.i (w64 (x6.int+1)),x7,x8])
 else ex 2 [x0,x1,x2,x3,x4,x5,x6,x7,x8]:=by kernel_rfl
theorem s_ImageOk_ev (N:Nat) (p:List D):evFn Tryz.prog s_ImageOkT N s_ImageOkK Tryz.f68 rb [⟨ag rIImage,p⟩]=some (bo,
 bif ltI 40 ((gd p 0).rows.length:Int) then ob false
 else bif ltI 10 ((gd p 1).rows.length:Int) then ob false
 else (let o0:=iter (s_ImageOkL0 N p) N [gd p 0,gd p 1,.i 0,.i 0,.b (ltI 10 ((gd p 1).rows.length:Int)),.i 0,gd p 0,gd p 1]
  nd o0.isSome (bif o0.code==1 then some (1,o0.pay)
  else nd (o0.code==2) ((let o2:=iter (s_ImageOkL2 N p) N [gd o0.pay 0,gd o0.pay 1,gd o0.pay 2,gd o0.pay 3,gd o0.pay 4,gd o0.pay 5,.i 0,gd o0.pay 6,gd o0.pay 7]
  nd o2.isSome (bif o2.code==1 then some (1,o2.pay)
  else nd (o2.code==4) (ob true))))))):=by kernel_rfl
def s_ImageOkE:Ent:=(68,e1 (ag rIImage) fun p=>(⟨rb,[.b (imOk p)]⟩,true))
theorem s_ImageOk_ok:EntOk Tryz.prog s_ImageOkE:=e1_ok fun p h=>evFn_sound (N:=(gd p 0).rows.length+(gd p 1).rows.length+1) (ks:=s_ImageOkK) (key:=bo) s_ImageOkT_ok (enters Tryz.func68) Tryz.func68 fun hw=>by
 rw [s_ImageOk_ev]
 have hl0:=wt_at (hw ⟨ag rIImage,p⟩ (by simp)) (j:=0) rfl
 have hl2:=wt_at (hw ⟨ag rIImage,p⟩ (by simp)) (j:=1) rfl
 unfold imOk
 by_cases hb:(gd p 0).rows.length≤40
 rotate_left
 ·rw [ltI_t (show (40:Int)<((gd p 0).rows.length:Int) from by omega),leI_f (show (40:Int)<((gd p 0).rows.length:Int) from by omega),Bool.false_and,Bool.and_false,Bool.and_false]
  rfl
 by_cases hc:(gd p 1).rows.length≤10
 rotate_left
 ·rw [ltI_f (show ((gd p 0).rows.length:Int)≤40 from by omega),ltI_t (show (10:Int)<((gd p 1).rows.length:Int) from by omega),leI_f (show (10:Int)<((gd p 1).rows.length:Int) from by omega),Bool.and_false,Bool.and_false,Bool.and_false]
  rfl
 rw [ltI_f (show ((gd p 0).rows.length:Int)≤40 from by omega),ltI_f (show ((gd p 1).rows.length:Int)≤10 from by omega),leI_t (show ((gd p 0).rows.length:Int)≤40 from by omega),leI_t (show ((gd p 1).rows.length:Int)≤10 from by omega),cond_false,cond_false,Bool.and_self,Bool.and_true]
 have e0:=for_loop (L:=s_ImageOkL0 ((gd p 0).rows.length+(gd p 1).rows.length+1) p) (fun k => [gd p 0,gd p 1,.i 0,.i 0,.b false,.i (k:Int),gd p 0,gd p 1]) (gd p 0).rows.length (cellAtB (gd p 0)) [.b false] 0 (fun k hk=>?_) ?_ (N:=((gd p 0).rows.length+(gd p 1).rows.length+1)) (by omega)
 ·simp only [Int.natCast_zero] at e0
  rw [e0]
  cases (List.range (gd p 0).rows.length).all (cellAtB (gd p 0)) with
  | false=>rfl
  | true =>
  have e2:=for_loop (L:=s_ImageOkL2 ((gd p 0).rows.length+(gd p 1).rows.length+1) p) (fun k => [gd p 0,gd p 1,.i 0,.i 0,.b false,.i ((gd p 0).rows.length:Int),.i (k:Int),gd p 0,gd p 1]) (gd p 1).rows.length (seatAtB (gd p 1)) [.b false] 2 (fun k hk=>?_) ?_ (N:=((gd p 0).rows.length+(gd p 1).rows.length+1)) (by omega)
  ·simp only [Int.natCast_zero] at e2
   simp only [nd,cond_true,cond_false,Option.isSome_some,Out.code,Out.pay,Option.getD_some,gd_cons_zero,gd_cons_succ,Nat.reduceBEq,Nat.reduceAdd,int_i,bool_b,str_s,rows_l,Bool.not_true,Bool.not_false,beq_self_eq_true]
   rw [e2]
   cases (List.range (gd p 1).rows.length).all (seatAtB (gd p 1)) <;> rfl
  ·cases k with
   | zero =>
    show s_ImageOkL2 _ p [_,_,_,_,_,_,.i ((0:Nat):Int),_,_]=_
    rw [s_ImageOkR2]
    simp only [int_i,c_lt hk,nd_ix hk,w64_succ hk hl2,Int.toNat_natCast,bne_not,ltI_00,seatAtB]
    cases inB (gd ((gd p 1).rows.getD 0 []) 0).int 0 1000000000 <;> cases inB (gd ((gd p 1).rows.getD 0 []) 1).int 1 1000000000 <;> cases inB (gd ((gd p 1).rows.getD 0 []) 2).int (-1) 1000000000 <;> rfl
   | succ k =>
    show s_ImageOkL2 _ p [_,_,_,_,_,_,.i ((k+1:Nat):Int),_,_]=_
    rw [s_ImageOkR2]
    simp only [int_i,c_lt hk,nd_ix hk,w64_succ hk hl2,Int.toNat_natCast,bne_not,ltI_0s,w64_pred (show k+1≤9223372036854775807 from by omega),nd_ix (Nat.lt_of_succ_lt hk),seatAtB]
    cases inB (gd ((gd p 1).rows.getD (k+1) []) 0).int 0 1000000000 <;> cases inB (gd ((gd p 1).rows.getD (k+1) []) 1).int 1 1000000000 <;> cases inB (gd ((gd p 1).rows.getD (k+1) []) 2).int (-1) 1000000000 <;> cases leI (gd ((gd p 1).rows.getD (k+1) []) 0).int (gd ((gd p 1).rows.getD k []) 0).int <;> rfl
  ·show s_ImageOkL2 _ p [_,_,_,_,_,_,.i ((gd p 1).rows.length:Int),_,_]=_
   rw [s_ImageOkR2]
   simp only [int_i,c_nlt]
 ·cases k with
  | zero =>
   show s_ImageOkL0 _ p [_,_,_,_,_,.i ((0:Nat):Int),_,_]=_
   rw [s_ImageOkR0]
   simp only [int_i,c_lt hk,nd_ix hk,w64_succ hk hl0,Int.toNat_natCast,bne_not,ltI_00,cellAtB]
   cases inB (gd ((gd p 0).rows.getD 0 []) 0).int 0 1000000000 <;> cases inB (gd ((gd p 0).rows.getD 0 []) 1).int 0 1000000000 <;> rfl
  | succ k =>
   show s_ImageOkL0 _ p [_,_,_,_,_,.i ((k+1:Nat):Int),_,_]=_
   rw [s_ImageOkR0]
   simp only [int_i,c_lt hk,nd_ix hk,w64_succ hk hl0,Int.toNat_natCast,bne_not,ltI_0s,w64_pred (show k+1≤9223372036854775807 from by omega),nd_ix (Nat.lt_of_succ_lt hk),cellAtB]
   cases inB (gd ((gd p 0).rows.getD (k+1) []) 0).int 0 1000000000 <;> cases inB (gd ((gd p 0).rows.getD (k+1) []) 1).int 0 1000000000 <;> cases leI (gd ((gd p 0).rows.getD (k+1) []) 0).int (gd ((gd p 0).rows.getD k []) 0).int <;> rfl
 ·show s_ImageOkL0 _ p [_,_,_,_,_,.i ((gd p 0).rows.length:Int),_,_]=_
  rw [s_ImageOkR0]
  simp only [int_i,c_nlt]
abbrev i_LogOk_1T:FuncId→List T→Option (T × Bool):=find [i_EntryOkE]
theorem i_LogOk_1T_ok:CallOk Tryz.prog i_LogOk_1T:=find_ok (fC ⟨i_EntryOk_ok,fN⟩)
abbrev i_LogOk_1K:List Nat:= [0,1,2]
theorem i_LogOk_1_ev (N:Nat) (p:List D):evFn Tryz.prog i_LogOk_1T N i_LogOk_1K Tryz.f152 rb [⟨ag rIEntry,p⟩]=some (bo,
 ob (!(entryOk (sub p 0 5)))):=by kernel_rfl
def i_LogOk_1E:Ent:=(152,e1 (ag rIEntry) fun p=>(⟨rb,[.b (!entryOk p)]⟩,true))
theorem i_LogOk_1_ok:EntOk Tryz.prog i_LogOk_1E:=e1_ok fun p h=>evFn_sound (N:=0) (ks:=i_LogOk_1K) (key:=bo) i_LogOk_1T_ok (enters Tryz.func152) Tryz.func152 fun hw=>by
 rw [i_LogOk_1_ev]
 rfl
abbrev ixfLBT:FuncId→List T→Option (T × Bool):=find [i_LogOk_1E]
theorem ixfLBT_ok:CallOk Tryz.prog ixfLBT:=find_ok (fC ⟨i_LogOk_1_ok,fN⟩)
abbrev ixfLBK:List Nat:= [0,1,4,5,7,8,9,16]
noncomputable def ixfLBL0 (N:Nat) (p q:List D):List D→Out:=loopOf Tryz.prog ixfLBT N ixfLBK Tryz.f90 ri [⟨sd (.sl 78),p⟩,⟨.one (.c (.fn 152 [])),q⟩] 0
theorem ixfLBR0 (N:Nat) (p q:List D) (x0 x1 x2 x3 x4:D):(ixfLBL0 N p q) [x0,x1,x2,x3,x4] =
 bif ltI x4.int x3.int then nd (inRange x4.int x0.rows.length) (bif !entryOk (sub (x0.rows.getD x4.int.toNat []) 0 5) then some (1,[x4])
 else nx [x0,x1,x2,x3,.i (w64 (x4.int+1))])
 else ex 0 [x0,x1,x2,x3,x4]:=by kernel_rfl
theorem ixfLB_ev (N:Nat) (p q:List D):evFn Tryz.prog ixfLBT N ixfLBK Tryz.f90 ri [⟨sd (.sl 78),p⟩,⟨.one (.c (.fn 152 [])),q⟩]=some (bo,
 (let o0:=iter (ixfLBL0 N p q) N [gd p 0,gd q 0,.i 0,.i ((gd p 0).rows.length:Int),.i 0]
  nd o0.isSome (bif o0.code==1 then some (1,o0.pay)
  else nd (o0.code==2) (oi (-1))))):=by kernel_rfl
def ixfLBC (c:D) (r:List D):Bool:= !entryOk r
def ixfLBE:Ent:=(90,e2 (sd (.sl 78)) (.one (.c (.fn 152 []))) fun p q=>(⟨ri,[.i (ixF (fun k=>ixfLBC (gd q 0) (sub ((gd p 0).rows.getD k []) 0 5)) 0 (gd p 0).rows.length)]⟩,true))
theorem ixfLB_ok:EntOk Tryz.prog ixfLBE:=e2_ok fun p q h=>evFn_sound (N:=(gd p 0).rows.length+1) (ks:=ixfLBK) (key:=bo) ixfLBT_ok (enters Tryz.func90) Tryz.func90 fun hw=>by
 rw [ixfLB_ev]
 have hl:=wt_sl (hw ⟨sd (.sl 78),p⟩ (by simp))
 have e:=ix_loop (L:=ixfLBL0 ((gd p 0).rows.length+1) p q) (fun k => [gd p 0,gd q 0,.i 0,.i ((gd p 0).rows.length:Int),.i (k:Int)]) (gd p 0).rows.length (fun k=>ixfLBC (gd q 0) (sub ((gd p 0).rows.getD k []) 0 5)) [gd p 0,gd q 0,.i 0,.i ((gd p 0).rows.length:Int),.i ((gd p 0).rows.length:Int)] (fun k hk=>?_) ?_ (gd p 0).rows.length 0 ((gd p 0).rows.length+1) (by omega) (by omega)
 ·simp only [Int.natCast_zero] at e
  rw [e]
  have hno:=ixF_neg (fun k=>ixfLBC (gd q 0) (sub ((gd p 0).rows.getD k []) 0 5)) (gd p 0).rows.length 0
  cases hd:decide (ixF (fun k=>ixfLBC (gd q 0) (sub ((gd p 0).rows.getD k []) 0 5)) 0 (gd p 0).rows.length≥0)
  ·rw [hno hd]; rfl
  ·rfl
 ·show ixfLBL0 _ p q [_,_,_,_,.i (k:Int)]=_
  rw [ixfLBR0]
  simp only [int_i,c_lt hk,nd_ix hk,w64_succ hk hl,Int.toNat_natCast]
  unfold ixfLBC
  cases entryOk (sub ((gd p 0).rows.getD k []) 0 5)  <;> rfl
 ·show ixfLBL0 _ p q [_,_,_,.i ((gd p 0).rows.length:Int),.i ((gd p 0).rows.length:Int)]=_
  rw [ixfLBR0]
  simp only [int_i,c_nlt]
abbrev cofLBT:FuncId→List T→Option (T × Bool):=find [ixfLBE,i_LogOk_1E]
theorem cofLBT_ok:CallOk Tryz.prog cofLBT:=find_ok (fC ⟨ixfLB_ok,fC ⟨i_LogOk_1_ok,fN⟩⟩)
abbrev cofLBK:List Nat:= [0,1,4]
theorem cofLB_ev (N:Nat) (p q:List D):evFn Tryz.prog cofLBT N cofLBK Tryz.f40 rb [⟨sd (.sl 78),p⟩,⟨.one (.c (.fn 152 [])),q⟩]=some (bo,
 ob (leI 0 (ixF (fun k=>ixfLBC (.l [[]]) (sub ((gd p 0).rows.getD k []) 0 5)) 0 (gd p 0).rows.length))):=by kernel_rfl
def cofLBE:Ent:=(40,e2 (sd (.sl 78)) (.one (.c (.fn 152 []))) fun p q=>(⟨rb,[.b (anyS (fun rr=>ixfLBC (gd q 0) (sub rr 0 5)) (gd p 0))]⟩,true))
theorem cofLB_ok:EntOk Tryz.prog cofLBE:=e2_ok fun p q h=>evFn_sound (N:=0) (ks:=cofLBK) (key:=bo) cofLBT_ok (enters Tryz.func40) Tryz.func40 fun hw=>by
 rw [cofLB_ev]
 refine congrArg (fun x=>some (bo,ob x)) ?_
 exact (ixF_any (fun k=>ixfLBC (gd q 0) (sub ((gd p 0).rows.getD k []) 0 5)) (gd p 0).rows.length 0).trans (by simp only [Nat.zero_add]; rfl)
abbrev i_LogOkT:FuncId→List T→Option (T × Bool):=find [i_isWholeE,i_ImageOkE,cofLBE]
theorem i_LogOkT_ok:CallOk Tryz.prog i_LogOkT:=find_ok (fC ⟨i_isWhole_ok,fC ⟨i_ImageOk_ok,fC ⟨cofLB_ok,fN⟩⟩⟩)
abbrev i_LogOkK:List Nat:= [0,1,2]
theorem i_LogOk_ev (N:Nat) (p:List D):evFn Tryz.prog i_LogOkT N i_LogOkK Tryz.f131 rb [⟨ag rILog,p⟩]=some (bo,
 bif inB (gd p 0).int (0) (1000000000) then bif imOk (sub p 1 2) then bif leI ((gd p 3).rows.length:Int) 60 then bif !(anyS (fun rr=>ixfLBC (.l [[]]) (sub rr 0 5)) (gd p 3)) then ob (inB (w64 ((gd p 0).int+((gd p 3).rows.length:Int))) (0) (1000000000))
 else ob false
 else ob false
 else ob false
 else ob false):=by kernel_rfl
def entsOk (z:D):Bool:=(List.range z.rows.length).all fun k=>entryOk (sub (z.rows.getD k []) 0 5)
def logOk (p:List D):Bool:=inB (gd p 0).int 0 1000000000&&(imOk (sub p 1 2)&&(leI ((gd p 3).rows.length:Int) 60&&(entsOk (gd p 3)&&inB (w64 ((gd p 0).int+((gd p 3).rows.length:Int))) 0 1000000000)))
theorem ents_any (z c:D):anyS (fun rr=>ixfLBC c (sub rr 0 5)) z = !entsOk z:=by
 have hS:∀ C:List D→Bool,anyS C z=(List.range z.rows.length).any fun j=>C (z.rows.getD j []):=fun C=>by
  have h:=anyS_take (C:=C) (z:=z) (k:=z.rows.length) (Nat.le_refl _)
  rw [List.take_length] at h
  exact h
 rw [hS]
 unfold entsOk ixfLBC
 rw [List.not_all_eq_any_not]
def i_LogOkE:Ent:=(131,e1 (ag rILog) fun p=>(⟨rb,[.b (logOk p)]⟩,true))
theorem i_LogOk_ok:EntOk Tryz.prog i_LogOkE:=e1_ok fun p h=>evFn_sound (N:=0) (ks:=i_LogOkK) (key:=bo) i_LogOkT_ok (enters Tryz.func131) Tryz.func131 fun hw=>by
 rw [i_LogOk_ev]
 unfold logOk
 rw [ents_any,Bool.not_not]
 cases inB (gd p 0).int 0 1000000000 <;> cases imOk (sub p 1 2) <;> cases leI ((gd p 3).rows.length:Int) 60 <;> cases entsOk (gd p 3) <;> rfl
abbrev s_LogOkT:FuncId→List T→Option (T × Bool):=find [s_l1WholeE,s_ImageOkE,s_EntryOkE]
theorem s_LogOkT_ok:CallOk Tryz.prog s_LogOkT:=find_ok (fC ⟨s_l1Whole_ok,fC ⟨s_ImageOk_ok,fC ⟨s_EntryOk_ok,fN⟩⟩⟩)
abbrev s_LogOkK:List Nat:= [0,1,2,3,29,34,43]
noncomputable def s_LogOkL0 (N:Nat) (p:List D):List D→Out:=loopOf Tryz.prog s_LogOkT N s_LogOkK Tryz.f75 rb [⟨ag rILog,p⟩] 0
theorem s_LogOkR0 (N:Nat) (p:List D) (x0 x1 x2 x3 x4 x5 x6 x7 x8 x9 x10 x11:D):(s_LogOkL0 N p) [x0,x1,x2,x3,x4,x5,x6,x7,x8,x9,x10,x11] =
 bif ltI x7.int (x11.rows.length:Int) then nd (inRange x7.int x11.rows.length) (bif !(entryOk (sub (x11.rows.getD x7.int.toNat []) 0 5)) then ob false
 else nx [x0,x1,x2,x3,x4,x5,x6,.i (w64 (x7.int+1)),x8,x9,x10,x11])
 else ex 0 [x0,x1,x2,x3,x4,x5,x6,x7,x8,x9,x10,x11]:=by kernel_rfl
theorem s_LogOk_ev (N:Nat) (p:List D):evFn Tryz.prog s_LogOkT N s_LogOkK Tryz.f75 rb [⟨ag rILog,p⟩]=some (bo,
 bif !(inB (gd p 0).int (0) (1000000000)) then ob false
 else bif !(imOk (sub p 1 2)) then ob false
 else bif ltI 60 ((gd p 3).rows.length:Int) then ob false
 else bif !(inB (w64 ((gd p 0).int+((gd p 3).rows.length:Int))) (0) (1000000000)) then ob false
 else (let o0:=iter (s_LogOkL0 N p) N [gd p 0,gd p 1,gd p 2,gd p 3,.i 0,.i 0,.b (!(inB (w64 ((gd p 0).int+((gd p 3).rows.length:Int))) (0) (1000000000))),.i 0,gd p 0,gd p 1,gd p 2,gd p 3]
  nd o0.isSome (bif o0.code==1 then some (1,o0.pay)
  else nd (o0.code==2) (ob true)))):=by kernel_rfl
def s_LogOkE:Ent:=(75,e1 (ag rILog) fun p=>(⟨rb,[.b (logOk p)]⟩,true))
theorem s_LogOk_ok:EntOk Tryz.prog s_LogOkE:=e1_ok fun p h=>evFn_sound (N:=(gd p 3).rows.length+1) (ks:=s_LogOkK) (key:=bo) s_LogOkT_ok (enters Tryz.func75) Tryz.func75 fun hw=>by
 rw [s_LogOk_ev]
 have hl:=wt_at (hw ⟨ag rILog,p⟩ (by simp)) (j:=3) rfl
 unfold logOk
 cases inB (gd p 0).int 0 1000000000 with
 | false=>rfl
 | true =>
 cases imOk (sub p 1 2) with
 | false=>rfl
 | true =>
 by_cases hb:(gd p 3).rows.length≤60
 rotate_left
 ·rw [ltI_t (show (60:Int)<((gd p 3).rows.length:Int) from by omega),leI_f (show (60:Int)<((gd p 3).rows.length:Int) from by omega)]
  rfl
 rw [ltI_f (show ((gd p 3).rows.length:Int)≤60 from by omega),leI_t (show ((gd p 3).rows.length:Int)≤60 from by omega)]
 show some (bo,bif !inB (w64 ((gd p 0).int+((gd p 3).rows.length:Int))) 0 1000000000 then _ else _)=some (bo,some (1,[D.b (entsOk (gd p 3)&&inB (w64 ((gd p 0).int+((gd p 3).rows.length:Int))) 0 1000000000)]))
 cases hi:inB (w64 ((gd p 0).int+((gd p 3).rows.length:Int))) 0 1000000000 with
 | false=>rw [Bool.and_false]; rfl
 | true =>
 rw [Bool.and_true]
 have e:=for_loop (L:=s_LogOkL0 ((gd p 3).rows.length+1) p) (fun k => [gd p 0,gd p 1,gd p 2,gd p 3,.i 0,.i 0,.b false,.i (k:Int),gd p 0,gd p 1,gd p 2,gd p 3]) (gd p 3).rows.length (fun k=>entryOk (sub ((gd p 3).rows.getD k []) 0 5)) [.b false] 0 (fun k hk=>?_) ?_ (N:=(gd p 3).rows.length+1) (by omega)
 ·simp only [Int.natCast_zero] at e
  simp only [Bool.not_true,cond_false]
  rw [e]
  show _=some (bo,some (1,[D.b ((List.range (gd p 3).rows.length).all fun k=>entryOk (sub ((gd p 3).rows.getD k []) 0 5))]))
  cases (List.range (gd p 3).rows.length).all fun k=>entryOk (sub ((gd p 3).rows.getD k []) 0 5) <;> rfl
 ·show s_LogOkL0 _ p [_,_,_,_,_,_,_,.i (k:Int),_,_,_,_]=_
  rw [s_LogOkR0]
  simp only [int_i,c_lt hk,nd_ix hk,w64_succ hk hl,Int.toNat_natCast]
  cases entryOk (sub ((gd p 3).rows.getD k []) 0 5) <;> rfl
 ·show s_LogOkL0 _ p [_,_,_,_,_,_,_,.i ((gd p 3).rows.length:Int),_,_,_,_]=_
  rw [s_LogOkR0]
  simp only [int_i,c_nlt]
abbrev i_endT:FuncId→List T→Option (T × Bool):=find []
theorem i_endT_ok:CallOk Tryz.prog i_endT:=find_ok (fN)
abbrev i_endK:List Nat:= [0,1,2]
theorem i_end_ev (N:Nat) (p:List D):evFn Tryz.prog i_endT N i_endK Tryz.f45 ri [⟨ag rILog,p⟩]=some (bo,
 oi (w64 ((gd p 0).int+((gd p 3).rows.length:Int)))):=by kernel_rfl
def endL (p:List D):Int:=w64 ((gd p 0).int+((gd p 3).rows.length:Int))
def i_endE:Ent:=(45,e1 (ag rILog) fun p=>(⟨ri,[.i (endL p)]⟩,true))
theorem i_end_ok:EntOk Tryz.prog i_endE:=e1_ok fun p h=>evFn_sound (N:=0) (ks:=i_endK) (key:=bo) i_endT_ok (enters Tryz.func45) Tryz.func45 fun hw=>by
 rw [i_end_ev]
 rfl
abbrev i_hasNumberT:FuncId→List T→Option (T × Bool):=find [i_LogOkE,i_endE,i_fromE]
theorem i_hasNumberT_ok:CallOk Tryz.prog i_hasNumberT:=find_ok (fC ⟨i_LogOk_ok,fC ⟨i_end_ok,fC ⟨i_from_ok,fN⟩⟩⟩)
abbrev i_hasNumberK:List Nat:= [0,1,2,4]
theorem i_hasNumber_ev (N:Nat) (p q:List D):evFn Tryz.prog i_hasNumberT N i_hasNumberK Tryz.f122 rb [⟨ag rILog,p⟩,⟨ri,q⟩]=some (bo,
 bif logOk (sub p 0 4) then ob (inB (gd q 0).int (gd p 0).int (endL (sub p 0 4)))
 else ob false):=by kernel_rfl
def hasN (p:List D) (n:D):Bool:=logOk (sub p 0 4)&&inB n.int (gd p 0).int (endL (sub p 0 4))
def i_hasNumberE:Ent:=(122,e2 (ag rILog) ri fun p q=>(⟨rb,[.b (hasN p (gd q 0))]⟩,true))
theorem i_hasNumber_ok:EntOk Tryz.prog i_hasNumberE:=e2_ok fun p q h=>evFn_sound (N:=0) (ks:=i_hasNumberK) (key:=bo) i_hasNumberT_ok (enters Tryz.func122) Tryz.func122 fun hw=>by
 rw [i_hasNumber_ev]
 unfold hasN
 cases logOk (sub p 0 4) <;> rfl
abbrev s_LogEndT:FuncId→List T→Option (T × Bool):=find [s_LogOkE]
theorem s_LogEndT_ok:CallOk Tryz.prog s_LogEndT:=find_ok (fC ⟨s_LogOk_ok,fN⟩)
abbrev s_LogEndK:List Nat:= [0,1,2,5]
theorem s_LogEnd_ev (N:Nat) (p:List D):evFn Tryz.prog s_LogEndT N s_LogEndK Tryz.f29 ri [⟨ag rILog,p⟩]=some (bo,
 bif !(logOk (sub p 0 4)) then oi (-1)
 else oi (w64 ((gd p 0).int+((gd p 3).rows.length:Int)))):=by kernel_rfl
def logEnd (p:List D):Int:=bif logOk (sub p 0 4) then endL (sub p 0 4) else -1
def s_LogEndE:Ent:=(29,e1 (ag rILog) fun p=>(⟨ri,[.i (logEnd p)]⟩,true))
theorem s_LogEnd_ok:EntOk Tryz.prog s_LogEndE:=e1_ok fun p h=>evFn_sound (N:=0) (ks:=s_LogEndK) (key:=bo) s_LogEndT_ok (enters Tryz.func29) Tryz.func29 fun hw=>by
 rw [s_LogEnd_ev]
 unfold logEnd
 cases logOk (sub p 0 4) <;> rfl
abbrev s_l6LogT:FuncId→List T→Option (T × Bool):=find [s_LogOkE,s_LogEndE,s_l1InE]
theorem s_l6LogT_ok:CallOk Tryz.prog s_l6LogT:=find_ok (fC ⟨s_LogOk_ok,fC ⟨s_LogEnd_ok,fC ⟨s_l1In_ok,fN⟩⟩⟩)
abbrev s_l6LogK:List Nat:= [0,1,2,4]
theorem s_l6Log_ev (N:Nat) (p q:List D):evFn Tryz.prog s_l6LogT N s_l6LogK Tryz.f105 rb [⟨ag rILog,p⟩,⟨ri,q⟩]=some (bo,
 bif logOk (sub p 0 4) then ob (inB (gd q 0).int (gd p 0).int (logEnd (sub p 0 4)))
 else ob false):=by kernel_rfl
def s_l6LogE:Ent:=(105,e2 (ag rILog) ri fun p q=>(⟨rb,[.b (hasN p (gd q 0))]⟩,true))
theorem s_l6Log_ok:EntOk Tryz.prog s_l6LogE:=e2_ok fun p q h=>evFn_sound (N:=0) (ks:=s_l6LogK) (key:=bo) s_l6LogT_ok (enters Tryz.func105) Tryz.func105 fun hw=>by
 rw [s_l6Log_ev]
 unfold hasN logEnd
 cases h:logOk (sub p 0 4) with
 | false=>rfl
 | true =>
  show some (bo,ob (inB (gd q 0).int (gd p 0).int (bif logOk (sub (sub p 0 4) 0 4) then endL (sub (sub p 0 4) 0 4) else -1)))=_
  rw [show sub (sub p 0 4) 0 4=sub p 0 4 from rfl,h]
  rfl
abbrev s_l3AmongT:FuncId→List T→Option (T × Bool):=find [s_LogOkE,s_LogEndE,s_l1InE]
theorem s_l3AmongT_ok:CallOk Tryz.prog s_l3AmongT:=find_ok (fC ⟨s_LogOk_ok,fC ⟨s_LogEnd_ok,fC ⟨s_l1In_ok,fN⟩⟩⟩)
abbrev s_l3AmongK:List Nat:= [0,1,2,4]
theorem s_l3Among_ev (N:Nat) (p q:List D):evFn Tryz.prog s_l3AmongT N s_l3AmongK Tryz.f70 rb [⟨ag rILog,p⟩,⟨ri,q⟩]=some (bo,
 bif logOk (sub p 0 4) then ob (inB (gd q 0).int (gd p 0).int (logEnd (sub p 0 4)))
 else ob false):=by kernel_rfl
def s_l3AmongE:Ent:=(70,e2 (ag rILog) ri fun p q=>(⟨rb,[.b (hasN p (gd q 0))]⟩,true))
theorem s_l3Among_ok:EntOk Tryz.prog s_l3AmongE:=e2_ok fun p q h=>evFn_sound (N:=0) (ks:=s_l3AmongK) (key:=bo) s_l3AmongT_ok (enters Tryz.func70) Tryz.func70 fun hw=>by
 rw [s_l3Among_ev]
 unfold hasN logEnd
 cases h:logOk (sub p 0 4) with
 | false=>rfl
 | true =>
  show some (bo,ob (inB (gd q 0).int (gd p 0).int (bif logOk (sub (sub p 0 4) 0 4) then endL (sub (sub p 0 4) 0 4) else -1)))=_
  rw [show sub (sub p 0 4) 0 4=sub p 0 4 from rfl,h]
  rfl
abbrev i_isOfT:FuncId→List T→Option (T × Bool):=find []
theorem i_isOfT_ok:CallOk Tryz.prog i_isOfT:=find_ok (fN)
abbrev i_isOfK:List Nat:= [0,2]
theorem i_isOf_ev (N:Nat) (p:List D):evFn Tryz.prog i_isOfT N i_isOfK Tryz.f120 rb [⟨ri,p⟩]=some (bo,
 bif (gd p 0).int==1 then ob true
 else bif (gd p 0).int==3 then ob true
 else ob ((gd p 0).int==5)):=by kernel_rfl
def isOfN (n:Int):Bool:=n==1||(n==3||n==5)
def i_isOfE:Ent:=(120,e1 ri fun p=>(⟨rb,[.b (isOfN (gd p 0).int)]⟩,true))
theorem i_isOf_ok:EntOk Tryz.prog i_isOfE:=e1_ok fun p h=>evFn_sound (N:=0) (ks:=i_isOfK) (key:=bo) i_isOfT_ok (enters Tryz.func120) Tryz.func120 fun hw=>by
 rw [i_isOf_ev]
 unfold isOfN
 cases (gd p 0).int==1 <;> cases (gd p 0).int==3 <;> rfl
abbrev s_l6OfT:FuncId→List T→Option (T × Bool):=find []
theorem s_l6OfT_ok:CallOk Tryz.prog s_l6OfT:=find_ok (fN)
abbrev s_l6OfK:List Nat:= [0,2]
theorem s_l6Of_ev (N:Nat) (p:List D):evFn Tryz.prog s_l6OfT N s_l6OfK Tryz.f102 rb [⟨ri,p⟩]=some (bo,
 bif (gd p 0).int==1 then ob true
 else bif (gd p 0).int==3 then ob true
 else ob ((gd p 0).int==5)):=by kernel_rfl
def s_l6OfE:Ent:=(102,e1 ri fun p=>(⟨rb,[.b (isOfN (gd p 0).int)]⟩,true))
theorem s_l6Of_ok:EntOk Tryz.prog s_l6OfE:=e1_ok fun p h=>evFn_sound (N:=0) (ks:=s_l6OfK) (key:=bo) s_l6OfT_ok (enters Tryz.func102) Tryz.func102 fun hw=>by
 rw [s_l6Of_ev]
 unfold isOfN
 cases (gd p 0).int==1 <;> cases (gd p 0).int==3 <;> rfl
end Go.Proofs.YthbbbhpjkgpdcaaGreat
namespace Go.Proofs.YthbbbhpjkgpdcaaGreat
set_option maxRecDepth 4096
set_option maxHeartbeats 1000000
theorem iter_exQ {L:List D→Out} {n c:Nat} {p q:List D} (h:L p=some (c+1,q)):iter L (n+1) p=some (c+1,q):=by
 show (match L p with | some (0,p')=>iter L n p' | o=>o)=_
 rw [h]; rfl
abbrev bsNT:FuncId→List T→Option (T × Bool):=find [i_cellFor_1E]
theorem bsNT_ok:CallOk Tryz.prog bsNT:=find_ok (fC ⟨i_cellFor_1_ok,fN⟩)
abbrev bsNK:List Nat:= [0,1,2,6,7,8,9,10,11,17,31]
noncomputable def bsNL0 (N:Nat) (p q r:List D):List D→Out:=loopOf Tryz.prog bsNT N bsNK Tryz.f169 (.tup [.c (.d si),.c (.d (.bool))]) [⟨sd (.sl 148),p⟩,⟨ri,q⟩,⟨.one (.c (.fn 170 [])),r⟩] 0
theorem bsNR0 (N:Nat) (p q r:List D) (x0 x1 x2 x3 x4 x5 x6 x7:D):(bsNL0 N p q r) [x0,x1,x2,x3,x4,x5,x6,x7] =
 bif ltI x6.int x7.int then nd (leI 0 1) (nd (inRange (w64 ((IntKind.u64.wrap (w64 (x6.int+x7.int))).fdiv (2 ^ (min 1 64)))) x0.rows.length) (bif ltI (w64 ((gd (x0.rows.getD (w64 ((IntKind.u64.wrap (w64 (x6.int+x7.int))).fdiv (2 ^ (min 1 64)))).toNat []) 0).int - x1.int)) 0 then nx [x0,x1,x2,x3,x4,x5,.i (w64 ((w64 ((IntKind.u64.wrap (w64 (x6.int+x7.int))).fdiv (2 ^ (min 1 64))))+1)),x7]
 else nx [x0,x1,x2,x3,x4,x5,x6,.i (w64 ((IntKind.u64.wrap (w64 (x6.int+x7.int))).fdiv (2 ^ (min 1 64))))]))
 else ex 0 [x0,x1,x2,x3,x4,x5,x6,x7]:=by kernel_rfl
noncomputable def bsNs0 (N:Nat) (p q r:List D) (o0:Out):Out:=nd (inRange (gd o0.pay 6).int (gd o0.pay 0).rows.length) (some (1,[gd o0.pay 6,.b ((w64 ((gd ((gd o0.pay 0).rows.getD (gd o0.pay 6).int.toNat []) 0).int - (gd o0.pay 1).int))==0)]))
noncomputable def bsNs1 (N:Nat) (p q r:List D) (o0:Out):Out:=bif ltI (gd o0.pay 6).int (gd o0.pay 5).int then (bsNs0 N p q r o0) else some (1,[gd o0.pay 6,.b false])
noncomputable def bsNs2 (N:Nat) (p q r:List D):Out:=let o0:Out:=iter (bsNL0 N p q r) N [gd p 0,gd q 0,gd r 0,.i 0,.i 0,.i ((gd p 0).rows.length:Int),.i 0,.i ((gd p 0).rows.length:Int)]; nd o0.isSome (nd (o0.code==2) (bsNs1 N p q r o0))
theorem bsN_ev (N:Nat) (p q r:List D):evFn Tryz.prog bsNT N bsNK Tryz.f169 (.tup [.c (.d si),.c (.d (.bool))]) [⟨sd (.sl 148),p⟩,⟨ri,q⟩,⟨.one (.c (.fn 170 [])),r⟩]=some (bo,(bsNs2 N p q r)):=by kernel_rfl
def keyUpAt (z:D):Nat→Bool
 | 0=>inB (keyAt z 0) 0 1000000000
 | k+1=>inB (keyAt z (k+1)) 0 1000000000 && !leI (keyAt z (k+1)) (keyAt z k)
def keysUp (z:D):Bool:=(List.range z.rows.length).all (keyUpAt z)&&leI (z.rows.length:Int) 60
structure SortN (z:D):Prop where
 len:z.rows.length≤60
 key:∀ k,k<z.rows.length→0≤keyAt z k∧keyAt z k≤1000000000
 lt:∀ i j,i<j→j<z.rows.length→keyAt z i<keyAt z j
theorem keys_sorted {z:D} (h:keysUp z=true):SortN z:=by
 simp only [keysUp,Bool.and_eq_true,List.all_eq_true,List.mem_range,leI,decide_eq_true_eq] at h
 obtain ⟨h,hl⟩:=h
 refine ⟨by omega,fun k hk=>?_,fun i j hij hj=>?_⟩
 ·have:=h k hk
  cases k with
  | zero=>simpa only [keyUpAt,inB,Bool.and_eq_true,decide_eq_true_eq] using this
  | succ k =>
   simp only [keyUpAt,Bool.and_eq_true,inB,decide_eq_true_eq] at this
   exact this.1
 ·obtain ⟨d,rfl⟩:∃ d,j=i+d+1:=⟨j - i - 1,by omega⟩
  have hs:∀ k,k+1<z.rows.length→keyAt z k<keyAt z (k+1):=fun k hk=>by
   have:=h (k+1) hk
   simp only [keyUpAt,Bool.and_eq_true,leI,Bool.not_eq_true',decide_eq_false_iff_not] at this
   omega
  clear hij
  induction d with
  | zero=>exact hs i hj
  | succ d ih=>exact Int.lt_trans (ih (by omega)) (hs (i+d+1) hj)
theorem im_cells {p:List D} (h:imOk p=true):keysUp (gd p 0)=true:=by
 simp only [imOk,Bool.and_eq_true,List.all_eq_true,List.mem_range,leI,decide_eq_true_eq] at h
 simp only [keysUp,Bool.and_eq_true,List.all_eq_true,List.mem_range,leI,decide_eq_true_eq]
 refine ⟨fun k hk=>?_,by omega⟩
 have:=h.1 k hk
 cases k with
 | zero=>simp only [cellAtB,Bool.and_eq_true] at this; exact this.1
 | succ k =>
  simp only [cellAtB,Bool.and_eq_true] at this
  simp only [keyUpAt,Bool.and_eq_true]
  exact ⟨this.1,this.2.2⟩
theorem im_seats {p:List D} (h:imOk p=true):keysUp (gd p 1)=true:=by
 simp only [imOk,Bool.and_eq_true,List.all_eq_true,List.mem_range,leI,decide_eq_true_eq] at h
 simp only [keysUp,Bool.and_eq_true,List.all_eq_true,List.mem_range,leI,decide_eq_true_eq]
 refine ⟨fun k hk=>?_,by omega⟩
 have:=h.2.1 k hk
 cases k with
 | zero=>simp only [seatAtB,Bool.and_eq_true] at this; exact this.1
 | succ k =>
  simp only [seatAtB,Bool.and_eq_true] at this
  simp only [keyUpAt,Bool.and_eq_true]
  exact ⟨this.1,this.2.2.2⟩
theorem bsN_loop (p q r:List D) (N:Nat) (hz:SortN (gd p 0)) (ht:inB (gd q 0).int 0 1000000000=true):∀ (d i j M:Nat),j=i+d→j≤(gd p 0).rows.length→d<M→(∀ k,k<i→keyAt (gd p 0) k<(gd q 0).int)→(∀ k,j≤k→k<(gd p 0).rows.length→(gd q 0).int≤keyAt (gd p 0) k) →
  iter (bsNL0 N p q r) M [gd p 0,gd q 0,gd r 0,.i 0,.i 0,.i ((gd p 0).rows.length:Int),.i (i:Int),.i (j:Int)]=some (2,[gd p 0,gd q 0,gd r 0,.i 0,.i 0,.i ((gd p 0).rows.length:Int),.i (lowN (gd p 0) (gd q 0).int:Int),.i (lowN (gd p 0) (gd q 0).int:Int)]):=by
 intro d
 induction d using Nat.strongRecOn with
 | _ d ih =>
 intro i j M hj hn hM h1 h2
 have hlen:=hz.len
 simp only [inB,Bool.and_eq_true,decide_eq_true_eq] at ht
 obtain ⟨M,rfl⟩:∃ M',M=M'+1:=⟨M - 1,by omega⟩
 rw [iter,bsNR0]
 simp only [int_i]
 by_cases hd:d=0
 ·subst hd
  obtain rfl:j=i:=by omega
  rw [c_nlt,lowN_eq hn h1 h2]
  rfl
 ·rw [c_lt (show i<j from by omega)]
  have hh:(i+j) / 2<(gd p 0).rows.length:=by omega
  simp only [half (show i+j≤1000 from by omega),nd_ix hh,Int.toNat_natCast,show leI 0 1=true from rfl,nd_true]
  have hk:=hz.key _ hh
  rw [show (gd ((gd p 0).rows.getD ((i+j) / 2) []) 0).int=keyAt (gd p 0) ((i+j) / 2) from rfl,w64_id (x:=keyAt (gd p 0) ((i+j) / 2) - (gd q 0).int) (by omega) (by omega)]
  by_cases hc:keyAt (gd p 0) ((i+j) / 2)<(gd q 0).int
  ·rw [ltI_t (show keyAt (gd p 0) ((i+j) / 2) - (gd q 0).int<0 from by omega),cond_true]
   simp only [w64_succ hh (show (gd p 0).rows.length≤9223372036854775807 from by omega)]
   exact ih (j - ((i+j) / 2+1)) (by omega) ((i+j) / 2+1) j M (by omega) hn (by omega) (fun k hk'=>by
    rcases Nat.lt_or_ge k ((i+j) / 2) with h | h
    ·have:=hz.lt k _ h hh; omega
    ·obtain rfl:k=(i+j) / 2:=by omega
     exact hc) h2
  ·rw [ltI_f (show 0≤keyAt (gd p 0) ((i+j) / 2) - (gd q 0).int from by omega),cond_false]
   exact ih ((i+j) / 2 - i) (by omega) i ((i+j) / 2) M (by omega) (by omega) (by omega) h1 (fun k hk1 hk2=>by
    rcases Nat.lt_or_ge ((i+j) / 2) k with h | h
    ·have:=hz.lt _ k h hk2; omega
    ·obtain rfl:k=(i+j) / 2:=by omega
     omega)
def bsNE:Ent:=(169,e3 (sd (.sl 148)) ri (.one (.c (.fn 170 []))) fun p q r=>(⟨.tup [.c (.d si),.c (.d (.bool))],[.i (lowN (gd p 0) (gd q 0).int:Int),.b (bsB (gd p 0) (gd q 0).int)]⟩,keysUp (gd p 0)&&inB (gd q 0).int 0 1000000000))
theorem bsN_ok:EntOk Tryz.prog bsNE:=e3_ok fun p q r h=>evFn_sound (N:=61) (ks:=bsNK) (key:=bo) bsNT_ok (enters Tryz.func169) Tryz.func169 fun hw=>by
 rw [bsN_ev]
 have h:(keysUp (gd p 0)&&inB (gd q 0).int 0 1000000000)=true:=h
 simp only [Bool.and_eq_true] at h
 have hz:=keys_sorted h.1
 have hlen:=hz.len
 have e:=bsN_loop p q r 61 hz h.2 (gd p 0).rows.length 0 (gd p 0).rows.length 61 (by omega) (Nat.le_refl _) (by omega) (fun k hk=>absurd hk (Nat.not_lt_zero _)) (fun k h1 h2=>absurd h2 (by omega))
 simp only [Int.natCast_zero] at e
 unfold bsNs2 bsNs1 bsNs0
 rw [e]
 simp only [nd,cond_true,cond_false,Option.isSome_some,Out.code,Out.pay,Option.getD_some,gd_cons_zero,gd_cons_succ,Nat.reduceBEq,Nat.reduceAdd,int_i,bool_b,str_s,rows_l,Bool.not_true,Bool.not_false,beq_self_eq_true]
 unfold bsB
 have ht:=h.2
 simp only [inB,Bool.and_eq_true,decide_eq_true_eq] at ht
 by_cases hb:lowN (gd p 0) (gd q 0).int<(gd p 0).rows.length
 ·have hk:=hz.key _ hb
  rw [ltI_nat hb,inRange_nat hb,Int.toNat_natCast,show (gd ((gd p 0).rows.getD (lowN (gd p 0) (gd q 0).int) []) 0).int=keyAt (gd p 0) (lowN (gd p 0) (gd q 0).int) from rfl,w64_id (x:=keyAt (gd p 0) (lowN (gd p 0) (gd q 0).int) - (gd q 0).int) (by omega) (by omega)]
  rw [show (keyAt (gd p 0) (lowN (gd p 0) (gd q 0).int) - (gd q 0).int==0)=(keyAt (gd p 0) (lowN (gd p 0) (gd q 0).int)==(gd q 0).int) from by
   rw [Bool.eq_iff_iff]; simp only [beq_iff_eq]; omega]
  rfl
 ·rw [ltI_f (show ((gd p 0).rows.length:Int)≤(lowN (gd p 0) (gd q 0).int:Int) from by omega)]
  rfl
abbrev i_seatFor_1T:FuncId→List T→Option (T × Bool):=find []
theorem i_seatFor_1T_ok:CallOk Tryz.prog i_seatFor_1T:=find_ok (fN)
abbrev i_seatFor_1K:List Nat:= [0,1,2,4]
theorem i_seatFor_1_ev (N:Nat) (p q:List D):evFn Tryz.prog i_seatFor_1T N i_seatFor_1K Tryz.f135 ri [⟨ag rISeat,p⟩,⟨ri,q⟩]=some (bo,
 oi (w64 ((gd p 0).int - (gd q 0).int))):=by kernel_rfl
def i_seatFor_1E:Ent:=(135,e2 (ag rISeat) ri fun p q=>(⟨ri,[.i (w64 ((gd p 0).int - (gd q 0).int))]⟩,true))
theorem i_seatFor_1_ok:EntOk Tryz.prog i_seatFor_1E:=e2_ok fun p q h=>evFn_sound (N:=0) (ks:=i_seatFor_1K) (key:=bo) i_seatFor_1T_ok (enters Tryz.func135) Tryz.func135 fun hw=>by
 rw [i_seatFor_1_ev]
 skip
abbrev bsTT:FuncId→List T→Option (T × Bool):=find [i_seatFor_1E]
theorem bsTT_ok:CallOk Tryz.prog bsTT:=find_ok (fC ⟨i_seatFor_1_ok,fN⟩)
abbrev bsTK:List Nat:= [0,1,2,6,7,8,9,10,11,17,31]
noncomputable def bsTL0 (N:Nat) (p q r:List D):List D→Out:=loopOf Tryz.prog bsTT N bsTK Tryz.f134 (.tup [.c (.d si),.c (.d (.bool))]) [⟨sd (.sl 69),p⟩,⟨ri,q⟩,⟨.one (.c (.fn 135 [])),r⟩] 0
theorem bsTR0 (N:Nat) (p q r:List D) (x0 x1 x2 x3 x4 x5 x6 x7:D):(bsTL0 N p q r) [x0,x1,x2,x3,x4,x5,x6,x7] =
 bif ltI x6.int x7.int then nd (leI 0 1) (nd (inRange (w64 ((IntKind.u64.wrap (w64 (x6.int+x7.int))).fdiv (2 ^ (min 1 64)))) x0.rows.length) (bif ltI (w64 ((gd (x0.rows.getD (w64 ((IntKind.u64.wrap (w64 (x6.int+x7.int))).fdiv (2 ^ (min 1 64)))).toNat []) 0).int - x1.int)) 0 then nx [x0,x1,x2,x3,x4,x5,.i (w64 ((w64 ((IntKind.u64.wrap (w64 (x6.int+x7.int))).fdiv (2 ^ (min 1 64))))+1)),x7]
 else nx [x0,x1,x2,x3,x4,x5,x6,.i (w64 ((IntKind.u64.wrap (w64 (x6.int+x7.int))).fdiv (2 ^ (min 1 64))))]))
 else ex 0 [x0,x1,x2,x3,x4,x5,x6,x7]:=by kernel_rfl
noncomputable def bsTs0 (N:Nat) (p q r:List D) (o0:Out):Out:=nd (inRange (gd o0.pay 6).int (gd o0.pay 0).rows.length) (some (1,[gd o0.pay 6,.b ((w64 ((gd ((gd o0.pay 0).rows.getD (gd o0.pay 6).int.toNat []) 0).int - (gd o0.pay 1).int))==0)]))
noncomputable def bsTs1 (N:Nat) (p q r:List D) (o0:Out):Out:=bif ltI (gd o0.pay 6).int (gd o0.pay 5).int then (bsTs0 N p q r o0) else some (1,[gd o0.pay 6,.b false])
noncomputable def bsTs2 (N:Nat) (p q r:List D):Out:=let o0:Out:=iter (bsTL0 N p q r) N [gd p 0,gd q 0,gd r 0,.i 0,.i 0,.i ((gd p 0).rows.length:Int),.i 0,.i ((gd p 0).rows.length:Int)]; nd o0.isSome (nd (o0.code==2) (bsTs1 N p q r o0))
theorem bsT_ev (N:Nat) (p q r:List D):evFn Tryz.prog bsTT N bsTK Tryz.f134 (.tup [.c (.d si),.c (.d (.bool))]) [⟨sd (.sl 69),p⟩,⟨ri,q⟩,⟨.one (.c (.fn 135 [])),r⟩]=some (bo,(bsTs2 N p q r)):=by kernel_rfl
theorem bsT_loop (p q r:List D) (N:Nat) (hz:SortN (gd p 0)) (ht:inB (gd q 0).int 0 1000000000=true):∀ (d i j M:Nat),j=i+d→j≤(gd p 0).rows.length→d<M→(∀ k,k<i→keyAt (gd p 0) k<(gd q 0).int)→(∀ k,j≤k→k<(gd p 0).rows.length→(gd q 0).int≤keyAt (gd p 0) k) →
  iter (bsTL0 N p q r) M [gd p 0,gd q 0,gd r 0,.i 0,.i 0,.i ((gd p 0).rows.length:Int),.i (i:Int),.i (j:Int)]=some (2,[gd p 0,gd q 0,gd r 0,.i 0,.i 0,.i ((gd p 0).rows.length:Int),.i (lowN (gd p 0) (gd q 0).int:Int),.i (lowN (gd p 0) (gd q 0).int:Int)]):=by
 intro d
 induction d using Nat.strongRecOn with
 | _ d ih =>
 intro i j M hj hn hM h1 h2
 have hlen:=hz.len
 simp only [inB,Bool.and_eq_true,decide_eq_true_eq] at ht
 obtain ⟨M,rfl⟩:∃ M',M=M'+1:=⟨M - 1,by omega⟩
 rw [iter,bsTR0]
 simp only [int_i]
 by_cases hd:d=0
 ·subst hd
  obtain rfl:j=i:=by omega
  rw [c_nlt,lowN_eq hn h1 h2]
  rfl
 ·rw [c_lt (show i<j from by omega)]
  have hh:(i+j) / 2<(gd p 0).rows.length:=by omega
  simp only [half (show i+j≤1000 from by omega),nd_ix hh,Int.toNat_natCast,show leI 0 1=true from rfl,nd_true]
  have hk:=hz.key _ hh
  rw [show (gd ((gd p 0).rows.getD ((i+j) / 2) []) 0).int=keyAt (gd p 0) ((i+j) / 2) from rfl,w64_id (x:=keyAt (gd p 0) ((i+j) / 2) - (gd q 0).int) (by omega) (by omega)]
  by_cases hc:keyAt (gd p 0) ((i+j) / 2)<(gd q 0).int
  ·rw [ltI_t (show keyAt (gd p 0) ((i+j) / 2) - (gd q 0).int<0 from by omega),cond_true]
   simp only [w64_succ hh (show (gd p 0).rows.length≤9223372036854775807 from by omega)]
   exact ih (j - ((i+j) / 2+1)) (by omega) ((i+j) / 2+1) j M (by omega) hn (by omega) (fun k hk'=>by
    rcases Nat.lt_or_ge k ((i+j) / 2) with h | h
    ·have:=hz.lt k _ h hh; omega
    ·obtain rfl:k=(i+j) / 2:=by omega
     exact hc) h2
  ·rw [ltI_f (show 0≤keyAt (gd p 0) ((i+j) / 2) - (gd q 0).int from by omega),cond_false]
   exact ih ((i+j) / 2 - i) (by omega) i ((i+j) / 2) M (by omega) (by omega) (by omega) h1 (fun k hk1 hk2=>by
    rcases Nat.lt_or_ge ((i+j) / 2) k with h | h
    ·have:=hz.lt _ k h hk2; omega
    ·obtain rfl:k=(i+j) / 2:=by omega
     omega)
def bsTE:Ent:=(134,e3 (sd (.sl 69)) ri (.one (.c (.fn 135 []))) fun p q r=>(⟨.tup [.c (.d si),.c (.d (.bool))],[.i (lowN (gd p 0) (gd q 0).int:Int),.b (bsB (gd p 0) (gd q 0).int)]⟩,keysUp (gd p 0)&&inB (gd q 0).int 0 1000000000))
theorem bsT_ok:EntOk Tryz.prog bsTE:=e3_ok fun p q r h=>evFn_sound (N:=61) (ks:=bsTK) (key:=bo) bsTT_ok (enters Tryz.func134) Tryz.func134 fun hw=>by
 rw [bsT_ev]
 have h:(keysUp (gd p 0)&&inB (gd q 0).int 0 1000000000)=true:=h
 simp only [Bool.and_eq_true] at h
 have hz:=keys_sorted h.1
 have hlen:=hz.len
 have e:=bsT_loop p q r 61 hz h.2 (gd p 0).rows.length 0 (gd p 0).rows.length 61 (by omega) (Nat.le_refl _) (by omega) (fun k hk=>absurd hk (Nat.not_lt_zero _)) (fun k h1 h2=>absurd h2 (by omega))
 simp only [Int.natCast_zero] at e
 unfold bsTs2 bsTs1 bsTs0
 rw [e]
 simp only [nd,cond_true,cond_false,Option.isSome_some,Out.code,Out.pay,Option.getD_some,gd_cons_zero,gd_cons_succ,Nat.reduceBEq,Nat.reduceAdd,int_i,bool_b,str_s,rows_l,Bool.not_true,Bool.not_false,beq_self_eq_true]
 unfold bsB
 have ht:=h.2
 simp only [inB,Bool.and_eq_true,decide_eq_true_eq] at ht
 by_cases hb:lowN (gd p 0) (gd q 0).int<(gd p 0).rows.length
 ·have hk:=hz.key _ hb
  rw [ltI_nat hb,inRange_nat hb,Int.toNat_natCast,show (gd ((gd p 0).rows.getD (lowN (gd p 0) (gd q 0).int) []) 0).int=keyAt (gd p 0) (lowN (gd p 0) (gd q 0).int) from rfl,w64_id (x:=keyAt (gd p 0) (lowN (gd p 0) (gd q 0).int) - (gd q 0).int) (by omega) (by omega)]
  rw [show (keyAt (gd p 0) (lowN (gd p 0) (gd q 0).int) - (gd q 0).int==0)=(keyAt (gd p 0) (lowN (gd p 0) (gd q 0).int)==(gd q 0).int) from by
   rw [Bool.eq_iff_iff]; simp only [beq_iff_eq]; omega]
  rfl
 ·rw [ltI_f (show ((gd p 0).rows.length:Int)≤(lowN (gd p 0) (gd q 0).int:Int) from by omega)]
  rfl
abbrev i_cellForNT:FuncId→List T→Option (T × Bool):=find [bsNE]
theorem i_cellForNT_ok:CallOk Tryz.prog i_cellForNT:=find_ok (fC ⟨bsN_ok,fN⟩)
abbrev i_cellForNK:List Nat:= [0,1,4,5]
theorem i_cellForN_ev (N:Nat) (p q:List D):evFn Tryz.prog i_cellForNT N i_cellForNK Tryz.f163 (.tup [.c (.d si),.c (.d (.bool))]) [⟨sd (.sl 148),p⟩,⟨ri,q⟩]=some (bo,
 nd (keysUp (gd p 0)&&inB (gd q 0).int 0 1000000000) (some (1,[.i (lowN (gd p 0) (gd q 0).int:Int),.b (bsB (gd p 0) (gd q 0).int)]))):=by kernel_rfl
def i_cellForNE:Ent:=(163,e2 (sd (.sl 148)) ri fun p q=>(⟨.tup [.c (.d si),.c (.d (.bool))],[.i (lowN (gd p 0) (gd q 0).int:Int),.b (bsB (gd p 0) (gd q 0).int)]⟩,keysUp (gd p 0)&&inB (gd q 0).int 0 1000000000))
theorem i_cellForN_ok:EntOk Tryz.prog i_cellForNE:=e2_ok fun p q h=>evFn_sound (N:=0) (ks:=i_cellForNK) (key:=bo) i_cellForNT_ok (enters Tryz.func163) Tryz.func163 fun hw=>by
 rw [i_cellForN_ev]
 have h:(keysUp (gd p 0)&&inB (gd q 0).int 0 1000000000)=true:=h
 rw [h,nd_true]
abbrev i_seatForT:FuncId→List T→Option (T × Bool):=find [bsTE]
theorem i_seatForT_ok:CallOk Tryz.prog i_seatForT:=find_ok (fC ⟨bsT_ok,fN⟩)
abbrev i_seatForK:List Nat:= [0,1,2,4,5]
theorem i_seatFor_ev (N:Nat) (p q:List D):evFn Tryz.prog i_seatForT N i_seatForK Tryz.f87 (.tup [.c (.d si),.c (.d (.bool))]) [⟨ag rIImage,p⟩,⟨ri,q⟩]=some (bo,
 nd (keysUp (gd p 1)&&inB (gd q 0).int 0 1000000000) (some (1,[.i (lowN (gd p 1) (gd q 0).int:Int),.b (bsB (gd p 1) (gd q 0).int)]))):=by kernel_rfl
def i_seatForE:Ent:=(87,e2 (ag rIImage) ri fun p q=>(⟨.tup [.c (.d si),.c (.d (.bool))],[.i (lowN (gd p 1) (gd q 0).int:Int),.b (bsB (gd p 1) (gd q 0).int)]⟩,keysUp (gd p 1)&&inB (gd q 0).int 0 1000000000))
theorem i_seatFor_ok:EntOk Tryz.prog i_seatForE:=e2_ok fun p q h=>evFn_sound (N:=0) (ks:=i_seatForK) (key:=bo) i_seatForT_ok (enters Tryz.func87) Tryz.func87 fun hw=>by
 rw [i_seatFor_ev]
 have h:(keysUp (gd p 1)&&inB (gd q 0).int 0 1000000000)=true:=h
 rw [h,nd_true]
abbrev i_valueOfNT:FuncId→List T→Option (T × Bool):=find [i_cellForNE]
theorem i_valueOfNT_ok:CallOk Tryz.prog i_valueOfNT:=find_ok (fC ⟨i_cellForN_ok,fN⟩)
abbrev i_valueOfNK:List Nat:= [0,1,4,5,6,14]
theorem i_valueOfN_ev (N:Nat) (p q:List D):evFn Tryz.prog i_valueOfNT N i_valueOfNK Tryz.f155 ri [⟨sd (.sl 148),p⟩,⟨ri,q⟩]=some (bo,
 nd (keysUp (gd p 0)&&inB (gd q 0).int 0 1000000000) (bif !(bsB (gd p 0) (gd q 0).int) then oi (-1)
 else nd (inRange (lowN (gd p 0) (gd q 0).int:Int) (gd p 0).rows.length) (some (1,[gd ((gd p 0).rows.getD (lowN (gd p 0) (gd q 0).int:Int).toNat []) 1])))):=by kernel_rfl
def i_valueOfNE:Ent:=(155,e2 (sd (.sl 148)) ri fun p q=>(⟨ri,[valD (gd p 0) (gd q 0).int]⟩,keysUp (gd p 0)&&inB (gd q 0).int 0 1000000000))
theorem i_valueOfN_ok:EntOk Tryz.prog i_valueOfNE:=e2_ok fun p q h=>evFn_sound (N:=0) (ks:=i_valueOfNK) (key:=bo) i_valueOfNT_ok (enters Tryz.func155) Tryz.func155 fun hw=>by
 rw [i_valueOfN_ev]
 have h:(keysUp (gd p 0)&&inB (gd q 0).int 0 1000000000)=true:=h
 rw [h,nd_true]
 unfold valD
 cases hb:bsB (gd p 0) (gd q 0).int
 ·rfl
 ·have hb':=hb
  simp only [bsB,Bool.and_eq_true,ltI,decide_eq_true_eq] at hb'
  rw [inRange_nat (show lowN (gd p 0) (gd q 0).int<(gd p 0).rows.length from by omega)]
  rfl
abbrev i_SeatOfT:FuncId→List T→Option (T × Bool):=find [i_ImageOkE,i_seatForE]
theorem i_SeatOfT_ok:CallOk Tryz.prog i_SeatOfT:=find_ok (fC ⟨i_ImageOk_ok,fC ⟨i_seatFor_ok,fN⟩⟩)
abbrev i_SeatOfK:List Nat:= [0,1,2,4,5,6,7,10,19]
theorem i_SeatOf_ev (N:Nat) (p q:List D):evFn Tryz.prog i_SeatOfT N i_SeatOfK Tryz.f37 (.tup [.agg [.d si,.d si,.d si],.c (.d .bool)]) [⟨ag rIImage,p⟩,⟨ri,q⟩]=some (bo,
 bif !(imOk (sub p 0 2)) then some (1,[.i 0,.i 0,.i 0,.b false])
 else nd (keysUp (gd p 1)&&inB (gd q 0).int 0 1000000000) (bif !(bsB (gd p 1) (gd q 0).int) then some (1,[.i 0,.i 0,.i 0,.b false])
 else nd (inRange (lowN (gd p 1) (gd q 0).int:Int) (gd p 1).rows.length) (some (1,[gd ((gd p 1).rows.getD (lowN (gd p 1) (gd q 0).int:Int).toNat []) 0,gd ((gd p 1).rows.getD (lowN (gd p 1) (gd q 0).int:Int).toNat []) 1,gd ((gd p 1).rows.getD (lowN (gd p 1) (gd q 0).int:Int).toNat []) 2,.b true])))):=by kernel_rfl
def seatOf (p:List D) (c:Int):List D:=bif imOk p&&bsB (gd p 1) c then [gd ((gd p 1).rows.getD (lowN (gd p 1) c) []) 0,gd ((gd p 1).rows.getD (lowN (gd p 1) c) []) 1,gd ((gd p 1).rows.getD (lowN (gd p 1) c) []) 2,.b true] else [.i 0,.i 0,.i 0,.b false]
def i_SeatOfE:Ent:=(37,e2 (ag rIImage) ri fun p q=>(⟨.tup [.agg [.d si,.d si,.d si],.c (.d .bool)],sub (seatOf p (gd q 0).int) 0 4⟩,inB (gd q 0).int 0 1000000000))
theorem i_SeatOf_ok:EntOk Tryz.prog i_SeatOfE:=e2_ok fun p q h=>evFn_sound (N:=0) (ks:=i_SeatOfK) (key:=bo) i_SeatOfT_ok (enters Tryz.func37) Tryz.func37 fun hw=>by
 rw [i_SeatOf_ev]
 have h:inB (gd q 0).int 0 1000000000=true:=h
 rw [show sub p 0 2 = [gd p 0,gd p 1] from rfl]
 rw [show imOk [gd p 0,gd p 1]=imOk p from rfl]
 unfold seatOf
 cases hi:imOk p with
 | false=>rfl
 | true =>
 simp only [gd_cons_zero,gd_cons_succ,im_seats hi,h,Bool.and_self,nd_true,Bool.true_and,Bool.not_true,cond_false]
 cases hb:bsB (gd p 1) (gd q 0).int with
 | false=>rfl
 | true =>
  have hb':=hb
  simp only [bsB,Bool.and_eq_true,ltI,decide_eq_true_eq] at hb'
  simp only [Bool.not_true,cond_false,cond_true]
  rw [inRange_nat (show lowN (gd p 1) (gd q 0).int<(gd p 1).rows.length from by omega)]
  rfl
abbrev s_CellAtT:FuncId→List T→Option (T × Bool):=find [s_ImageOkE]
theorem s_CellAtT_ok:CallOk Tryz.prog s_CellAtT:=find_ok (fC ⟨s_ImageOk_ok,fN⟩)
abbrev s_CellAtK:List Nat:= [0,1,2,4,5,8,13,23]
noncomputable def s_CellAtL0 (N:Nat) (p q:List D):List D→Out:=loopOf Tryz.prog s_CellAtT N s_CellAtK Tryz.f145 ri [⟨ag rIImage,p⟩,⟨ri,q⟩] 0
theorem s_CellAtR0 (N:Nat) (p q:List D) (x0 x1 x2 x3 x4 x5 x6 x7 x8:D):(s_CellAtL0 N p q) [x0,x1,x2,x3,x4,x5,x6,x7,x8] =
 bif ltI x6.int (x7.rows.length:Int) then nd (inRange x6.int x7.rows.length) (bif (gd (x7.rows.getD x6.int.toNat []) 0).int==x2.int then nd (inRange x6.int x7.rows.length) (some (1,[gd (x7.rows.getD x6.int.toNat []) 1]))
 else nx [x0,x1,x2,x3,x4,x5,.i (w64 (x6.int+1)),x7,x8])
 else ex 0 [x0,x1,x2,x3,x4,x5,x6,x7,x8]:=by kernel_rfl
theorem s_CellAt_ev (N:Nat) (p q:List D):evFn Tryz.prog s_CellAtT N s_CellAtK Tryz.f145 ri [⟨ag rIImage,p⟩,⟨ri,q⟩]=some (bo,
 bif !(imOk (sub p 0 2)) then oi (-1)
 else (let o0:=iter (s_CellAtL0 N p q) N [gd p 0,gd p 1,gd q 0,.i 0,.i 0,.b (!(imOk (sub p 0 2))),.i 0,gd p 0,gd p 1]
  nd o0.isSome (bif o0.code==1 then some (1,o0.pay)
  else nd (o0.code==2) (oi (-1))))):=by kernel_rfl
def s_CellAtE:Ent:=(145,e2 (ag rIImage) ri fun p q=>(⟨ri,[(bif imOk p then valD (gd p 0) (gd q 0).int else .i (-1))]⟩,true))
theorem s_CellAt_ok:EntOk Tryz.prog s_CellAtE:=e2_ok fun p q h=>evFn_sound (N:=(gd p 0).rows.length+1) (ks:=s_CellAtK) (key:=bo) s_CellAtT_ok (enters Tryz.func145) Tryz.func145 fun hw=>by
 rw [s_CellAt_ev]
 rw [show sub p 0 2 = [gd p 0,gd p 1] from rfl]
 rw [show imOk [gd p 0,gd p 1]=imOk p from rfl]
 cases hi:imOk p with
 | false=>rfl
 | true =>
 unfold valD
 simp only [Bool.not_true,cond_false,cond_true]
 have hz:=keys_sorted (im_cells hi)
 have hlen:=hz.len
 have e:=iter_scan (step:=s_CellAtL0 ((gd p 0).rows.length+1) p q) (fun k => [gd p 0,gd p 1,gd q 0,.i 0,.i 0,.b false,.i (k:Int),gd p 0,gd p 1]) (fun k=>bif keyAt (gd p 0) k==(gd q 0).int then some (1,[gd ((gd p 0).rows.getD k []) 1]) else none) (2,[gd p 0,gd p 1,gd q 0,.i 0,.i 0,.b false,.i ((gd p 0).rows.length:Int),gd p 0,gd p 1]) (n:=(gd p 0).rows.length) (fun k hk=>?_) (fun k o h=>?_) ?_ (by simp) (gd p 0).rows.length 0 ((gd p 0).rows.length+1) (by omega) (by omega)
 ·simp only [Int.natCast_zero] at e
  rw [e]
  cases hb:bsB (gd p 0) (gd q 0).int
  ·rw [scan_no _ _ fun j hj=>?_]
   ·rfl
   ·rw [Nat.zero_add]
    cases hk:keyAt (gd p 0) j==(gd q 0).int
    ·rfl
    ·have hk:=eq_of_beq hk
     have hl:lowN (gd p 0) (gd q 0).int=j:=lowN_eq (by omega) (fun k hkj=>by have:=hz.lt k j hkj hj; omega) (fun k h1 h2=>by
      rcases Nat.lt_or_ge j k with h | h
      ·have:=hz.lt j k h h2; omega
      ·obtain rfl:k=j:=by omega
       omega)
     unfold bsB at hb
     rw [hl,ltI_nat hj,hk,beq_self_eq_true] at hb
     cases hb
  ·simp only [bsB,Bool.and_eq_true,ltI,decide_eq_true_eq] at hb
   have hlt:lowN (gd p 0) (gd q 0).int<(gd p 0).rows.length:=by omega
   rw [scan_at _ _ (lowN (gd p 0) (gd q 0).int) hlt (by rw [Nat.zero_add,hb.2]; rfl) fun j hj=>?_]
   ·rfl
   ·rw [Nat.zero_add,show (keyAt (gd p 0) j==(gd q 0).int)=false from beq_eq_false_iff_ne.2 (by
     have:=hz.lt j _ hj hlt
     have:=eq_of_beq hb.2
     omega)]
    rfl
 ·show s_CellAtL0 _ p q [_,_,_,_,_,_,.i (k:Int),_,_]=_
  rw [s_CellAtR0]
  simp only [int_i,c_lt hk,nd_ix hk,w64_succ hk (show (gd p 0).rows.length≤9223372036854775807 from by omega),Int.toNat_natCast,Bool.not_true]
  rw [show (gd ((gd p 0).rows.getD k []) 0).int=keyAt (gd p 0) k from rfl]
  cases keyAt (gd p 0) k==(gd q 0).int <;> rfl
 ·cases hc:keyAt (gd p 0) k==(gd q 0).int
  ·rw [hc] at h; cases h
  ·rw [hc,cond_true] at h
   injection h with h
   rw [← h]; simp
 ·show s_CellAtL0 _ p q [_,_,_,_,_,_,.i ((gd p 0).rows.length:Int),_,_]=_
  rw [s_CellAtR0]
  simp only [int_i,c_nlt]
abbrev s_SeatOfT:FuncId→List T→Option (T × Bool):=find [s_ImageOkE]
theorem s_SeatOfT_ok:CallOk Tryz.prog s_SeatOfT:=find_ok (fC ⟨s_ImageOk_ok,fN⟩)
abbrev s_SeatOfK:List Nat:= [0,1,2,4,5,6,15,25]
noncomputable def s_SeatOfL0 (N:Nat) (p q:List D):List D→Out:=loopOf Tryz.prog s_SeatOfT N s_SeatOfK Tryz.f23 (.tup [.agg [.d si,.d si,.d si],.c (.d .bool)]) [⟨ag rIImage,p⟩,⟨ri,q⟩] 0
theorem s_SeatOfR0 (N:Nat) (p q:List D) (x0 x1 x2 x3 x4 x5 x6 x7 x8 x9 x10 x11:D):(s_SeatOfL0 N p q) [x0,x1,x2,x3,x4,x5,x6,x7,x8,x9,x10,x11] =
 bif ltI x6.int (x8.rows.length:Int) then bif imOk [x7,x8] then nd (inRange x6.int x8.rows.length) (bif (gd (x8.rows.getD x6.int.toNat []) 0).int==x2.int then nd (inRange x6.int x8.rows.length) (some (1,[gd (x8.rows.getD x6.int.toNat []) 0,gd (x8.rows.getD x6.int.toNat []) 1,gd (x8.rows.getD x6.int.toNat []) 2,.b true]))
 else nx [x0,x1,x2,x3,x4,x5,.i (w64 (x6.int+1)),x7,x8,x9,x10,x11])
 else ex 0 [x0,x1,x2,x3,x4,x5,x6,x7,x8,x9,x10,x11]
 else ex 0 [x0,x1,x2,x3,x4,x5,x6,x7,x8,x9,x10,x11]:=by kernel_rfl
theorem s_SeatOf_ev (N:Nat) (p q:List D):evFn Tryz.prog s_SeatOfT N s_SeatOfK Tryz.f23 (.tup [.agg [.d si,.d si,.d si],.c (.d .bool)]) [⟨ag rIImage,p⟩,⟨ri,q⟩]=some (bo,
 (let o0:=iter (s_SeatOfL0 N p q) N [gd p 0,gd p 1,gd q 0,.i 0,.i 0,.i 0,.i 0,gd p 0,gd p 1,.i 0,.i 0,.i 0]
  nd o0.isSome (bif o0.code==1 then some (1,o0.pay)
  else nd (o0.code==2) (some (1,[.i 0,.i 0,.i 0,.b false]))))):=by kernel_rfl
def s_SeatOfE:Ent:=(23,e2 (ag rIImage) ri fun p q=>(⟨.tup [.agg [.d si,.d si,.d si],.c (.d .bool)],sub (seatOf p (gd q 0).int) 0 4⟩,true))
theorem s_SeatOf_ok:EntOk Tryz.prog s_SeatOfE:=e2_ok fun p q h=>evFn_sound (N:=(gd p 1).rows.length+1) (ks:=s_SeatOfK) (key:=bo) s_SeatOfT_ok (enters Tryz.func23) Tryz.func23 fun hw=>by
 rw [s_SeatOf_ev]
 unfold seatOf
 cases hi:imOk p with
 | false =>
  rw [iter_exQ (c:=1) (q:= [gd p 0,gd p 1,gd q 0,.i 0,.i 0,.i 0,.i 0,gd p 0,gd p 1,.i 0,.i 0,.i 0]) ?_]
  ·rfl
  ·show s_SeatOfL0 _ p q [_,_,_,_,_,_,.i 0,_,_,_,_,_]=_
   rw [s_SeatOfR0]
   have hi:imOk [gd p 0,gd p 1]=false:=hi
   rw [hi]
   cases ltI (D.i 0).int ((gd p 1).rows.length:Int) <;> rfl
 | true =>
 have hi':imOk [gd p 0,gd p 1]=true:=hi
 have hz:=keys_sorted (im_seats hi)
 have hlen:=hz.len
 have e:=iter_scan (step:=s_SeatOfL0 ((gd p 1).rows.length+1) p q) (fun k => [gd p 0,gd p 1,gd q 0,.i 0,.i 0,.i 0,.i (k:Int),gd p 0,gd p 1,.i 0,.i 0,.i 0]) (fun k=>bif keyAt (gd p 1) k==(gd q 0).int then some (1,[gd ((gd p 1).rows.getD k []) 0,gd ((gd p 1).rows.getD k []) 1,gd ((gd p 1).rows.getD k []) 2,.b true]) else none) (2,[gd p 0,gd p 1,gd q 0,.i 0,.i 0,.i 0,.i ((gd p 1).rows.length:Int),gd p 0,gd p 1,.i 0,.i 0,.i 0]) (n:=(gd p 1).rows.length) (fun k hk=>?_) (fun k o h=>?_) ?_ (by simp) (gd p 1).rows.length 0 ((gd p 1).rows.length+1) (by omega) (by omega)
 ·simp only [Int.natCast_zero] at e
  rw [e]
  cases hb:bsB (gd p 1) (gd q 0).int
  ·rw [scan_no _ _ fun j hj=>?_]
   ·rfl
   ·rw [Nat.zero_add]
    cases hk:keyAt (gd p 1) j==(gd q 0).int
    ·rfl
    ·have hk:=eq_of_beq hk
     have hl:lowN (gd p 1) (gd q 0).int=j:=lowN_eq (by omega) (fun k hkj=>by have:=hz.lt k j hkj hj; omega) (fun k h1 h2=>by
      rcases Nat.lt_or_ge j k with h | h
      ·have:=hz.lt j k h h2; omega
      ·obtain rfl:k=j:=by omega
       omega)
     unfold bsB at hb
     rw [hl,ltI_nat hj,hk,beq_self_eq_true] at hb
     cases hb
  ·simp only [bsB,Bool.and_eq_true,ltI,decide_eq_true_eq] at hb
   have hlt:lowN (gd p 1) (gd q 0).int<(gd p 1).rows.length:=by omega
   rw [scan_at _ _ (lowN (gd p 1) (gd q 0).int) hlt (by rw [Nat.zero_add,hb.2]; rfl) fun j hj=>?_]
   ·rfl
   ·rw [Nat.zero_add,show (keyAt (gd p 1) j==(gd q 0).int)=false from beq_eq_false_iff_ne.2 (by
     have:=hz.lt j _ hj hlt
     have:=eq_of_beq hb.2
     omega)]
    rfl
 ·show s_SeatOfL0 _ p q [_,_,_,_,_,_,.i (k:Int),_,_,_,_,_]=_
  rw [s_SeatOfR0]
  simp only [int_i,c_lt hk,nd_ix hk,w64_succ hk (show (gd p 1).rows.length≤9223372036854775807 from by omega),Int.toNat_natCast,hi',cond_true]
  rw [show (gd ((gd p 1).rows.getD k []) 0).int=keyAt (gd p 1) k from rfl]
  cases keyAt (gd p 1) k==(gd q 0).int <;> rfl
 ·cases hc:keyAt (gd p 1) k==(gd q 0).int
  ·rw [hc] at h; cases h
  ·rw [hc,cond_true] at h
   injection h with h
   rw [← h]; simp
 ·show s_SeatOfL0 _ p q [_,_,_,_,_,_,.i ((gd p 1).rows.length:Int),_,_,_,_,_]=_
  rw [s_SeatOfR0]
  simp only [int_i,c_nlt]
end Go.Proofs.YthbbbhpjkgpdcaaGreat
namespace Go.Proofs.YthbbbhpjkgpdcaaGreat.H
open Go.RowKit Go.Lib
set_option maxRecDepth 100000
set_option maxHeartbeats 4000000
theorem run_copy2 {P:Program} (w:World) (dT sT ty elem k:TypeId) (b o n dLen dCap:Nat) (a:Addr) (sLen sCap:Nat) (cs:List Value)
  (hu:P.underlying dT=some (.slice elem)) (hs:(P.info? elem).map (·.size)=some k) (hn:n=Nat.min sLen dLen) (hl:cs.length=n*k)
  (hsrc:∀ j v,cs[j]?=some v→w.cell? (a.add j)=some v) (hc:∀ j,j<cs.length→(w.cell? ⟨b,o+j,none⟩).isSome=true) (hf:∀ j,j<cs.length→w.frozen? ⟨b,o+j,none⟩=false) (h1:∀ v∈cs,v.oneCell'=true) :
  (Builtin.copy_ #[dT,sT] ty #[.slice (some ⟨b,o,none⟩) dLen dCap,.slice (some a) sLen sCap]).run P w=.ok (goInt n) (w.setCells b o cs):=by
 have hld:=run_loadCells_list (P:=P) w a cs hsrc
 have hst:=run_storeCells_cells (P:=P) b o cs 0 w (by simpa using hc) (by simpa using hf) h1
 cases hq:P.info? elem with
 | none=>simp [hq] at hs
 | some i =>
  have hi:i.size=k:=by simpa [hq] using hs
  rw [hl] at hld
  simp [Builtin.copy_,run_underlying hu,Builtin.lenOf,Builtin.firstCells,sizeOf,typeInfo,hq,hi,← hn,hld,hst]
theorem run_clear2 {P:Program} (w:World) (t e ty:TypeId) (z:Value) (ht:P.underlying t=some (.slice e)) (hv:∀ w,(zeroValue e).run P w=.ok z w) (h1:∀ u∈z.cells.toList,u.oneCell'=true) (b o c:Nat) (hs:0<z.cells.size)
  (hc:∀ j,j<z.cells.size→(w.cell? ⟨b,o+j,none⟩).isSome=true) (hf:∀ j,j<z.cells.size→w.frozen? ⟨b,o+j,none⟩=false) :
  (Builtin.clear_ #[t] ty #[.slice (some ⟨b,o,none⟩) 1 c]).run P w=.ok (.tuple #[]) (w.setCells b o z.cells.toList):=by
 have hzc:(Builtin.zeroCells z.cells 1).toList=z.cells.toList:=by
  apply List.ext_getElem
  ·simp [Builtin.zeroCells]
  ·intro j h1 h2
   have h2':j<z.cells.size:=by simpa using h2
   simp [Builtin.zeroCells,Nat.mod_eq_of_lt h2',getElem!_pos z.cells j h2']
 have hst:=run_storeCells_cells (P:=P) b o z.cells.toList 0 w (by simpa using hc) (by simpa using hf) h1
 simp [Builtin.clear_,run_underlying ht,hv,hzc,hst]
theorem isSome_set (b:Nat) (vs:List Value) (o:Nat) (w:World) (h:∀ j,j<vs.length→(w.cell? ⟨b,o+j,none⟩).isSome=true) (k:Nat) (hk:(w.cell? ⟨b,k,none⟩).isSome=true):((w.setCells b o vs).cell? ⟨b,k,none⟩).isSome=true:=by
 by_cases hin:o≤k∧k<o+vs.length
 ·obtain ⟨j,rfl⟩:∃ j,k=o+j:=⟨k - o,by omega⟩
  rw [World.cell?_setCells_in b vs o w h j (by omega)]; rfl
 ·rw [World.cell?_setCells_out b _ _ _ _ (fun _ _=>by show k<o∨_≤k; omega)]
  exact hk
abbrev zc:Value:=.agg #[.int .i64 0,.int .i64 0]
theorem zc_run (w:World):(zeroValue 148).run Tryz.prog w=.ok zc w:=Tryz.zeroValue148 w
theorem info_cell:(Tryz.prog.info? 148).map (fun i=>(i.zero,i.size,i.bytes))=some (some zc,2,16):=by kernel_rfl
theorem del_cell (b off n c i j:Nat) (cs:List Value) (w:World) (hj:j=i+1) (hi:i<n) (hnc:n≤c) (hc63:c≤9223372036854775807) (hcl:cs.length=n*2) (hcs:∀ j v,cs[j]?=some v→w.cell? ⟨b,off+j,none⟩=some v)
  (hfz:∀ j,j<n*2→w.frozen? ⟨b,off+j,none⟩=false) (h1:∀ v∈cs,v.oneCell'=true) :
  Calls Tryz.prog 164 #[.slice (some ⟨b,off,none⟩) n c,.int .i64 i,.int .i64 j] w fun e w' =>
   e=.returned (.slice (some ⟨b,off,none⟩) (n - 1) c)∧w'=(w.drew.setCells b (off+i*2) (cs.drop (j*2))).setCells b (off+(n - 1)*2) zc.cells.toList:=by
 obtain ⟨i0,hi0,hz0,hzs,hzb⟩:=info_parts info_cell
 have hsome:∀ j,j<n*2→(w.cell? ⟨b,off+j,none⟩).isSome=true:=fun j hj=>by
  rw [hcs j _ (List.getElem?_eq_getElem (by omega))]; rfl
 have mixed:Tryz.prog.follows .mixedOrders=true:=by kernel_rfl
 have hij:¬ ((i:Int)=(j:Int)):=by omega
 obtain ⟨news,hnews⟩:∃ news,news=cs.drop (j*2):=⟨_,rfl⟩
 have hnl:news.length=(n - j)*2:=by rw [hnews,List.length_drop,hcl,Nat.sub_mul]
 have hng:∀ t u,news[t]?=some u→w.cell? ⟨b,off+j*2+t,none⟩=some u:=fun t u hu=>by
  rw [hnews,List.getElem?_drop] at hu
  rw [Nat.add_assoc]
  exact hcs _ u hu
 have s2:Hid (∀ u∈news,u.oneCell'=true):=fun u hu=>h1 u (by rw [hnews] at hu; exact List.mem_of_mem_drop hu)
 obtain ⟨A,hA,hsrc⟩:∃ A:Addr,(if c=j then some (⟨b,off,none⟩:Addr) else some ⟨b,off+j*2,none⟩)=some A∧Hid (∀ t u,news[t]?=some u→w.drew.cell? (A.add t)=some u):=by
  by_cases h:c=j
  ·refine ⟨⟨b,off,none⟩,by simp [h],fun t u hu=>?_⟩
   have h0:news.length=0:=by rw [hnl]; omega
   rw [List.length_eq_zero_iff.1 h0] at hu
   simp at hu
  ·refine ⟨⟨b,off+j*2,none⟩,by simp [h],fun t u hu=>?_⟩
   rw [Addr.add_lit]
   exact hng t u hu
 have s1:Hid (news.length=(n - j)*2):=hnl
 have s3:Hid (∀ t,t<news.length→(w.drew.cell? ⟨b,off+i*2+t,none⟩).isSome=true∧w.drew.frozen? ⟨b,off+i*2+t,none⟩=false):=fun t ht=>by
  rw [hnl] at ht
  rw [Nat.add_assoc]
  exact ⟨hsome _ (by omega),hfz _ (by omega)⟩
 obtain ⟨W1,hW1⟩:∃ W1,W1=w.drew.setCells b (off+i*2) news:=⟨_,rfl⟩
 have hcl2:∀ ty cc,(Builtin.clear_ #[38] ty #[.slice (some ⟨b,off+(n - 1)*2,none⟩) 1 cc]).run Tryz.prog W1=.ok (.tuple #[]) (W1.setCells b (off+(n - 1)*2) zc.cells.toList):=fun ty cc=>by
  refine run_clear2 W1 _ _ ty zc Tryz.underlying38 zc_run (fun u hu=>?_) b _ cc (by decide) (fun t ht=>?_) (fun t ht=>?_)
  ·simp [Value.cells] at hu; subst hu; rfl
  ·have ht:t<2:=ht
   rw [hW1]
   refine isSome_set b _ _ _ (fun j hj=>?_) _ ?_
   ·rw [Nat.add_assoc]; exact hsome _ (by omega)
   ·rw [Nat.add_assoc]; exact hsome _ (by omega)
  ·have ht:t<2:=ht
   rw [hW1,World.frozen?_setCells,Nat.add_assoc]
   exact hfz _ (by omega)
 have hWh:Hid (W1=w.drew.setCells b (off+i*2) news):=hW1
 have e1:i+(n - j)=n - 1:=by omega
 have e2:n - (n - 1)=1:=by omega
 have b1:i≤c:=by omega
 have b2:j≤c:=by omega
 have b5:j≤n:=by omega
 have b6:i≤j:=by omega
 have b3:¬ (c=n - 1):=by omega
 have b4:n - 1≤n:=by omega
 clear hW1 hcs hfz hsome hng hnl hj
 go_enter Tryz.func164,Tryz.ntmps164
 go_wp2_with fail
 go_region_law_o (refine step_append_room rfl (.tmp 22) (.tmp 25) 38 rfl 148 i0 2 Tryz.underlying38 hi0 hzs b off i c (by simp [Act.eval,Act.put]) A (n - j) (c - j) news (by simp [Act.eval,Act.put]) s1.out hsrc.out s2.out (by omega) s3.out ?_; rw [← hWh.out,e1])
 go_wp2
 go_ret
 refine ⟨rfl,?_⟩
 rw [hWh.out,hnews]
 rfl
theorem ins_shift (b off n c i k vb voff vc:Nat) (cs vs:List Value) (w:World) (hk:k=i+1) (hi:i<n) (hroom:n+1≤c) (hc63:c≤9223372036854775807) (hvb:vb≠b)
  (hcl:cs.length=n*2) (hvl:vs.length=2)
  (hcs:∀ j v,cs[j]?=some v→w.cell? ⟨b,off+j,none⟩=some v) (hsp:∀ j,j<(n+1)*2→(w.cell? ⟨b,off+j,none⟩).isSome=true) (hfz:∀ j,j<(n+1)*2→w.frozen? ⟨b,off+j,none⟩=false)
  (hvs:∀ j v,vs[j]?=some v→w.cell? ⟨vb,voff+j,none⟩=some v) (h1c:∀ v∈cs,v.oneCell'=true) (h1v:∀ v∈vs,v.oneCell'=true)
  (tA tB:TypeId) (kA kB:Nat) (hsa:w.shape? vb=some (tA,kA)) (hsb:w.shape? b=some (tB,kB)) (hkB:kB≠0) (hfa:w.frozen? ⟨vb,voff,none⟩=false) (hfe:w.frozen? ⟨vb,kA,none⟩=false) :
  Calls Tryz.prog 165 #[.slice (some ⟨b,off,none⟩) n c,.int .i64 i,.slice (some ⟨vb,voff,none⟩) 1 vc] w fun e w' =>
   e=.returned (.slice (some ⟨b,off,none⟩) (n+1) c)∧w'=(w.drew.setCells b (off+k*2) (cs.drop (i*2))).setCells b (off+i*2) vs:=by
 obtain ⟨i0,hi0,hz0,hzs,hzb⟩:=info_parts info_cell
 have mixed:Tryz.prog.follows .mixedOrders=true:=by kernel_rfl
 have hz2:¬ ((i:Int)=(n:Int)):=by omega
 have hsz:(Tryz.prog.info? 148).map (·.size)=some 2:=by rw [hi0]; simp [hzs]
 have u41:=Tryz.underlying38
 have hov:∀ lb cb,(callFunc 171 #[.slice (some ⟨vb,voff,none⟩) 1 vc,.slice (some ⟨b,off+k*2,none⟩) lb cb]).run Tryz.prog w=.ok (.value (.bool false)) w:=fun lb cb=>by
  rw [run_callFunc_extern Tryz.func171 (by kernel_rfl) (by kernel_rfl) (by kernel_rfl) (e:=Extern.SlicesOverlaps.overlaps #[38,38] #[4]) (by kernel_rfl),
   Lib.run_overlaps_apart w 38 4 148 u41 2 Tryz.sizeOf148 ⟨vb,voff,none⟩ ⟨b,off+k*2,none⟩ 1 vc lb cb hvb tA tB kA kB hsa hsb hkB hfa hfe]
  rfl
 have hdl:(cs.drop (i*2)).length=(n - i)*2:=by rw [List.length_drop,hcl,Nat.sub_mul]
 have hcp1:∀ ty dc sc,(Builtin.copy_ #[38,38] ty #[.slice (some ⟨b,off+k*2,none⟩) (n+1 - k) dc,.slice (some ⟨b,off+i*2,none⟩) (n+1 - i) sc]).run Tryz.prog w.drew=.ok (goInt ((n - i:Nat):Int)) (w.drew.setCells b (off+k*2) (cs.drop (i*2))):=fun ty dc sc =>
  run_copy2 w.drew _ _ ty 148 2 b (off+k*2) (n - i) (n+1 - k) dc ⟨b,off+i*2,none⟩ (n+1 - i) sc (cs.drop (i*2)) u41 hsz (by simp only [Nat.min_def]; split <;> omega) hdl
   (fun j v hj=>by rw [Addr.add_lit,Nat.add_assoc]; exact hcs (i*2+j) v (by rwa [List.getElem?_drop] at hj))
   (fun j hj=>by rw [hdl] at hj; rw [Nat.add_assoc]; exact hsp _ (by omega)) (fun j hj=>by rw [hdl] at hj; rw [Nat.add_assoc]; exact hfz _ (by omega)) (fun v hv=>h1c v (List.mem_of_mem_drop hv))
 obtain ⟨W1,hW1⟩:∃ W1,W1=w.drew.setCells b (off+k*2) (cs.drop (i*2)):=⟨_,rfl⟩
 have hsp1:∀ t,t<(n+1)*2→(W1.cell? ⟨b,off+t,none⟩).isSome=true:=fun t ht=>by
  rw [hW1]
  exact isSome_set b _ _ _ (fun j hj=>by rw [hdl] at hj; rw [Nat.add_assoc]; exact hsp _ (by omega)) _ (hsp t ht)
 have hcp2:∀ (W:World),(∀ x,W.cell? x=W1.cell? x)→(∀ x,W.frozen? x=W1.frozen? x)→∀ ty dc,(Builtin.copy_ #[38,38] ty #[.slice (some ⟨b,off+i*2,none⟩) (n+1 - i) dc,.slice (some ⟨vb,voff,none⟩) 1 vc]).run Tryz.prog W=.ok (goInt 1) (W.setCells b (off+i*2) vs):=fun W hWc hWf ty dc =>
  run_copy2 W _ _ ty 148 2 b (off+i*2) 1 (n+1 - i) dc ⟨vb,voff,none⟩ 1 vc vs u41 hsz (by simp only [Nat.min_def]; split <;> omega) (by rw [hvl])
   (fun j v hj=>by
    rw [Addr.add_lit,hWc,hW1,World.cell?_setCells_out b _ _ _ _ (fun h _=>absurd h hvb)]
    exact hvs j v hj)
   (fun j hj=>by rw [hvl] at hj; rw [hWc,Nat.add_assoc]; exact hsp1 _ (by omega)) (fun j hj=>by rw [hvl] at hj; rw [hWf,hW1,World.frozen?_setCells,Nat.add_assoc]; exact hfz _ (by omega)) h1v
 have hE:Hid (W1=w.drew.setCells b (off+k*2) (cs.drop (i*2))):=hW1
 rw [← hW1] at hcp1
 have hw1:IntKind.i64.wrap ((n:Int)+1)=((n+1:Nat):Int):=by rw [IntKind.wrap_i64]; omega
 have hw2:IntKind.i64.wrap ((i:Int)+1)=(k:Int):=by rw [IntKind.wrap_i64]; omega
 have hnc:¬ ((n:Int)+1 > (c:Int)):=by omega
 have hb2:¬ (c=k):=by omega
 have hb4:¬ (c=i):=by omega
 have hin:i≤n:=by omega
 have hkn:(k:Int)≤(n:Int)+1:=by omega
 have hin2:(i:Int)≤(n:Int)+1:=by omega
 have hin1:i≤n+1:=by omega
 clear hsp hfz hcs hvs hsp1 hW1 hsa hsb hfa hfe hk hdl
 go_enter Tryz.func165,Tryz.ntmps165
 go_wp2_with (simp only [hov])
 go_region_law_o (refine step_copy_runI rfl _ _ 38 38 rfl _ _ (by simp [Act.eval,Act.put]) (by simp [Act.eval,Act.put]) (hcp1 _ _ _) ?_)
 go_wp2_with (at_builtin; refine wpList_copy_runI _ rfl _ _ 38 38 rfl _ _ rfl rfl (hcp2 _ (fun _=>rfl) (fun _=>rfl) _ _) ?_)
 go_ret
 exact ⟨rfl,by rw [hE.out]⟩
theorem ins_end (base:Option Addr) (n c vb voff vc:Nat) (w w1:World) (v':Value) (hnc:n≤c) (hc63:c≤9223372036854775807) (hb:base=none→c=0) (hr:∀ ty,(Builtin.append_ #[38,38] ty #[.slice base n c,.slice (some ⟨vb,voff,none⟩) 1 vc]).run Tryz.prog w=.ok v' w1) :
  Calls Tryz.prog 165 #[.slice base n c,.int .i64 n,.slice (some ⟨vb,voff,none⟩) 1 vc] w fun e w'=>e=.returned v'∧w'=w1:=by
 have mixed:Tryz.prog.follows .mixedOrders=true:=by kernel_rfl
 cases base with
 | none =>
  have h0:=hb rfl
  subst h0
  obtain rfl:n=0:=by omega
  go_enter Tryz.func165,Tryz.ntmps165
  go_wp2_with (at_builtin; refine Lib.wpList_append_run _ rfl _ _ _ _ rfl _ _ rfl rfl _ _ (hr _) ?_)
  all_goals (go_ret; exact ⟨rfl,rfl⟩)
 | some a =>
  obtain ⟨ab,ao,asp⟩:=a
  go_enter Tryz.func165,Tryz.ntmps165
  go_wp2_with (at_builtin; refine Lib.wpList_append_run _ rfl _ _ _ _ rfl _ _ rfl rfl _ _ (hr _) ?_)
  all_goals (go_ret; exact ⟨rfl,rfl⟩)
theorem ins_grow (b off n i k vb voff vc:Nat) (cs vs:List Value) (w:World) (hk:k=i+1) (hi:i<n) (hbig:(n+1)*16≤140737488355328)
  (hcl:cs.length=n*2) (hvl:vs.length=2)
  (hcs:∀ j v,cs[j]?=some v→w.cell? ⟨b,off+j,none⟩=some v)
  (hvs:∀ j v,vs[j]?=some v→w.cell? ⟨vb,voff+j,none⟩=some v) (h1c:∀ v∈cs,v.oneCell'=true) (h1v:∀ v∈vs,v.oneCell'=true) :
  Calls Tryz.prog 165 #[.slice (some ⟨b,off,none⟩) n n,.int .i64 i,.slice (some ⟨vb,voff,none⟩) 1 vc] w fun e w' =>
   e=.returned (.slice (some ⟨w.heap.size,0,none⟩) (n+1) (grownCap w (n+1) n 148)) ∧
   w'=(((w.alloc (.cells ((cs.take (i*2)).toArray++Builtin.zeroCells zc.cells (n+1 - i)++Builtin.zeroCells zc.cells (grownCap w (n+1) n 148 - (n+1))) 148)).drew.setCells w.heap.size (i*2) vs).drew).setCells w.heap.size (k*2) (cs.drop (i*2)):=by
 obtain ⟨i0,hi0,hz0,hzs,hzb⟩:=info_parts info_cell
 have mixed:Tryz.prog.follows .mixedOrders=true:=by kernel_rfl
 have u41:=Tryz.underlying38
 have u3:=Tryz.underlying3
 have hz2:¬ ((i:Int)=(n:Int)):=by omega
 have hsz:(Tryz.prog.info? 148).map (·.size)=some 2:=by rw [hi0]; simp [hzs]
 have hbw:b<w.heap.size:=block_lt_of_cell (hcs 0 _ (List.getElem?_eq_getElem (by omega)))
 have hvw:vb<w.heap.size:=block_lt_of_cell (hvs 0 _ (List.getElem?_eq_getElem (by omega)))
 have hik:i+(n+1 - i)=n+1:=by omega
 have hold:(Builtin.firstCells i0.size i (.slice (some ⟨b,off,none⟩) i n)).run Tryz.prog w.drew=.ok (cs.take (i*2)).toArray w.drew:=by
  rw [hzs]
  exact run_firstCells_some w.drew 2 i ⟨b,off,none⟩ i n (cs.take (i*2)) (by rw [List.length_take]; omega) (fun j v hj=>by
   rw [Addr.add_lit]
   rw [List.getElem?_take] at hj
   split at hj
   ·exact hcs j v hj
   ·cases hj)
 have hkk:IntKind.i64.wrap (((n+1:Nat):Int) - (i:Int))=((n+1 - i:Nat):Int):=by rw [IntKind.wrap_i64]; omega
 have hrz:∀ ty,(Builtin.append_ #[38,3] ty #[.slice (some ⟨b,off,none⟩) i n,.int .i64 ((n+1 - i:Nat):Int)]).run Tryz.prog w =
   .ok (.slice (some ⟨w.heap.size,0,none⟩) (n+1) (grownCap w (n+1) n 148)) (w.drew.alloc (.cells ((cs.take (i*2)).toArray++Builtin.zeroCells zc.cells (n+1 - i)++Builtin.zeroCells zc.cells (grownCap w (n+1) n 148 - (n+1))) 148)):=fun ty=>by
  have h:=Lib.run_append_grow_zeros w 38 3 ty 148 i0 zc .i64 .i64 u41 u3 hi0 hz0 (some ⟨b,off,none⟩) i n (cs.take (i*2)) hold (n+1 - i) (by omega) (by omega) (by omega) (by omega) (by rw [hzb]; omega) (by rw [hzb,hik]; exact growslice_fits (by omega) hbig)
  rw [hik] at h
  exact h
 obtain ⟨G,hG⟩:∃ G,G=grownCap w (n+1) n 148:=⟨_,rfl⟩
 obtain ⟨ROW,hROW⟩:∃ ROW:Array Value,ROW=(cs.take (i*2)).toArray++Builtin.zeroCells zc.cells (n+1 - i)++Builtin.zeroCells zc.cells (G - (n+1)):=⟨_,rfl⟩
 rw [← hG] at hrz ⊢
 rw [← hROW] at hrz ⊢
 have hRl:(n+1)*2≤ROW.size:=by
  rw [hROW]
  simp [Builtin.zeroCells,Value.cells,hcl]
  omega
 obtain ⟨W1,hW1⟩:∃ W1,W1=w.drew.alloc (.cells ROW 148):=⟨_,rfl⟩
 rw [← hW1] at hrz
 have hN:∀ j,j<(n+1)*2→(W1.cell? ⟨w.heap.size,j,none⟩).isSome=true:=fun j hj=>by
  rw [hW1,World.cell?_alloc_at (w:=w.drew) ROW _ w.heap.size j rfl,Array.getElem?_eq_getElem (by omega)]; rfl
 have hNf:∀ j,W1.frozen? ⟨w.heap.size,j,none⟩=false:=fun j=>by rw [hW1]; exact World.frozen?_alloc_at (w:=w.drew) ROW _ w.heap.size j rfl
 have hOb:∀ j v,w.cell? ⟨b,j,none⟩=some v→W1.cell? ⟨b,j,none⟩=some v:=fun j v h=>by rw [hW1,World.cell?_alloc_past (w:=w.drew) _ b j hbw]; exact h
 have hOv:∀ j v,w.cell? ⟨vb,j,none⟩=some v→W1.cell? ⟨vb,j,none⟩=some v:=fun j v h=>by rw [hW1,World.cell?_alloc_past (w:=w.drew) _ vb j hvw]; exact h
 have hcpA:∀ (W:World),(∀ x,W.cell? x=W1.cell? x)→(∀ x,W.frozen? x=W1.frozen? x)→∀ ty dc,(Builtin.copy_ #[38,38] ty #[.slice (some ⟨w.heap.size,i*2,none⟩) (n+1 - i) dc,.slice (some ⟨vb,voff,none⟩) 1 vc]).run Tryz.prog W=.ok (goInt 1) (W.setCells w.heap.size (i*2) vs):=fun W hWc hWf ty dc =>
  run_copy2 W _ _ ty 148 2 w.heap.size (i*2) 1 (n+1 - i) dc ⟨vb,voff,none⟩ 1 vc vs u41 hsz (by simp only [Nat.min_def]; split <;> omega) (by rw [hvl])
   (fun j v hj=>by rw [Addr.add_lit,hWc]; exact hOv _ v (hvs j v hj))
   (fun j hj=>by rw [hvl] at hj; rw [hWc]; exact hN _ (by omega)) (fun j hj=>by rw [hWf]; exact hNf _) h1v
 have hGn:n+1≤G:=by rw [hG]; exact grownCap_ge w _ _ _
 have hG63:G≤9223372036854775807:=by
  have:=grownCap_le_maxLen w (n+1) n 148 (by unfold maxLen; omega)
  rw [← hG] at this
  unfold maxLen at this
  omega
 have hbN:b≠w.heap.size:=by omega
 have hdl:(cs.drop (i*2)).length=(n - i)*2:=by rw [List.length_drop,hcl,Nat.sub_mul]
 have hcpB:∀ (W:World),(∀ x,W.cell? x=(W1.setCells w.heap.size (i*2) vs).cell? x)→(∀ x,W.frozen? x=(W1.setCells w.heap.size (i*2) vs).frozen? x)→∀ ty dc sc,(Builtin.copy_ #[38,38] ty #[.slice (some ⟨w.heap.size,k*2,none⟩) (n+1 - k) dc,.slice (some ⟨b,off+i*2,none⟩) (n - i) sc]).run Tryz.prog W=.ok (goInt ((n - i:Nat):Int)) (W.setCells w.heap.size (k*2) (cs.drop (i*2))):=fun W hWc hWf ty dc sc =>
  run_copy2 W _ _ ty 148 2 w.heap.size (k*2) (n - i) (n+1 - k) dc ⟨b,off+i*2,none⟩ (n - i) sc (cs.drop (i*2)) u41 hsz (by simp only [Nat.min_def]; split <;> omega) hdl
   (fun j v hj=>by
    rw [Addr.add_lit,hWc,World.cell?_setCells_out _ _ _ _ _ (fun h _=>absurd h hbN),Nat.add_assoc]
    exact hOb _ v (hcs (i*2+j) v (by rwa [List.getElem?_drop] at hj)))
   (fun j hj=>by rw [hdl] at hj; rw [hWc]; exact isSome_set _ _ _ _ (fun t ht=>by rw [hvl] at ht; exact hN _ (by omega)) _ (hN _ (by omega)))
   (fun j hj=>by rw [hWf,World.frozen?_setCells]; exact hNf _) (fun v hv=>h1c v (List.mem_of_mem_drop hv))
 subst hW1
 have hE1:∀ x,((w.alloc (.cells ROW 148)).drew).cell? x=(w.drew.alloc (.cells ROW 148)).cell? x:=fun x=>rfl
 have hE2:∀ x,((w.alloc (.cells ROW 148)).drew).frozen? x=(w.drew.alloc (.cells ROW 148)).frozen? x:=fun x=>rfl
 have hF1:∀ x,(((w.alloc (.cells ROW 148)).drew.setCells w.heap.size (i*2) vs).drew).cell? x=((w.drew.alloc (.cells ROW 148)).setCells w.heap.size (i*2) vs).cell? x:=fun x=>rfl
 have hF2:∀ x,(((w.alloc (.cells ROW 148)).drew.setCells w.heap.size (i*2) vs).drew).frozen? x=((w.drew.alloc (.cells ROW 148)).setCells w.heap.size (i*2) vs).frozen? x:=fun x=>rfl
 have hw1:IntKind.i64.wrap ((n:Int)+1)=((n+1:Nat):Int):=by rw [IntKind.wrap_i64]; omega
 have hw2:IntKind.i64.wrap ((i:Int)+1)=(k:Int):=by rw [IntKind.wrap_i64]; omega
 have hw3:IntKind.i64.wrap ((n:Int)+1 - (i:Int))=((n+1 - i:Nat):Int):=by rw [IntKind.wrap_i64]; omega
 have hw4:(n:Int)+1 - (i:Int)=((n+1 - i:Nat):Int):=by omega
 have hgt:(n:Int)+1 > (n:Int):=by omega
 have hci:¬ (n=i):=by omega
 have hGi:¬ (G=i):=by omega
 have hGk:¬ (G=k):=by omega
 have hin:i≤n:=by omega
 have hinZ:(i:Int)≤(n:Int):=by omega
 have hknZ:(k:Int)≤(n:Int)+1:=by omega
 have hinZ1:(i:Int)≤(n:Int)+1:=by omega
 clear hold hROW hG hRl hik hk
 go_enter Tryz.func165,Tryz.ntmps165
 go_wp2_with (first
  | (at_builtin; refine Lib.wpList_append_run _ rfl _ _ _ _ rfl _ _ rfl rfl _ _ (hrz _) ?_)
  | (at_builtin; refine wpList_copy_runI _ rfl _ _ 38 38 rfl _ _ rfl rfl (hcpA _ hE1 hE2 _ _) ?_))
 go_region_law_o (refine step_copy_runI rfl _ _ 38 38 rfl (.slice (some ⟨w.heap.size,k*2,none⟩) (n+1 - k) (G - k)) (.slice (some ⟨b,off+i*2,none⟩) (n - i) (n - i)) (by simp [Act.eval,Act.put]) (by simp [Act.eval,Act.put]) (hcpB _ hF1 hF2 3 (G - k) (n - i)) ?_)
 go_wp2
 go_ret
 exact ⟨rfl,rfl⟩
end Go.Proofs.YthbbbhpjkgpdcaaGreat.H
namespace Go.Proofs.YthbbbhpjkgpdcaaGreat.HS
open Go.RowKit Go.Lib Go.Proofs.YthbbbhpjkgpdcaaGreat.H
set_option maxRecDepth 100000
set_option maxHeartbeats 4000000
abbrev zs:Value:=.agg #[.int .i64 0,.int .i64 0,.int .i64 0]
theorem info_seat:(Tryz.prog.info? 69).map (fun i=>(i.zero,i.size,i.bytes))=some (some zs,3,24):=by kernel_rfl
theorem ins_shift (b off n c i k vb voff vc:Nat) (cs vs:List Value) (w:World) (hk:k=i+1) (hi:i<n) (hroom:n+1≤c) (hc63:c≤9223372036854775807) (hvb:vb≠b)
  (hcl:cs.length=n*3) (hvl:vs.length=3)
  (hcs:∀ j v,cs[j]?=some v→w.cell? ⟨b,off+j,none⟩=some v) (hsp:∀ j,j<(n+1)*3→(w.cell? ⟨b,off+j,none⟩).isSome=true) (hfz:∀ j,j<(n+1)*3→w.frozen? ⟨b,off+j,none⟩=false)
  (hvs:∀ j v,vs[j]?=some v→w.cell? ⟨vb,voff+j,none⟩=some v) (h1c:∀ v∈cs,v.oneCell'=true) (h1v:∀ v∈vs,v.oneCell'=true)
  (tA tB:TypeId) (kA kB:Nat) (hsa:w.shape? vb=some (tA,kA)) (hsb:w.shape? b=some (tB,kB)) (hkB:kB≠0) (hfa:w.frozen? ⟨vb,voff,none⟩=false) (hfe:w.frozen? ⟨vb,kA,none⟩=false) :
  Calls Tryz.prog 140 #[.slice (some ⟨b,off,none⟩) n c,.int .i64 i,.slice (some ⟨vb,voff,none⟩) 1 vc] w fun e w' =>
   e=.returned (.slice (some ⟨b,off,none⟩) (n+1) c)∧w'=(w.drew.setCells b (off+k*3) (cs.drop (i*3))).setCells b (off+i*3) vs:=by
 obtain ⟨i0,hi0,hz0,hzs,hzb⟩:=info_parts info_seat
 have mixed:Tryz.prog.follows .mixedOrders=true:=by kernel_rfl
 have hz2:¬ ((i:Int)=(n:Int)):=by omega
 have hsz:(Tryz.prog.info? 69).map (·.size)=some 3:=by rw [hi0]; simp [hzs]
 have u41:=Tryz.underlying39
 have hov:∀ lb cb,(callFunc 157 #[.slice (some ⟨vb,voff,none⟩) 1 vc,.slice (some ⟨b,off+k*3,none⟩) lb cb]).run Tryz.prog w=.ok (.value (.bool false)) w:=fun lb cb=>by
  rw [run_callFunc_extern Tryz.func157 (by kernel_rfl) (by kernel_rfl) (by kernel_rfl) (e:=Extern.SlicesOverlaps.overlaps #[39,39] #[4]) (by kernel_rfl),
   Lib.run_overlaps_apart w 39 4 69 u41 3 Tryz.sizeOf69 ⟨vb,voff,none⟩ ⟨b,off+k*3,none⟩ 1 vc lb cb hvb tA tB kA kB hsa hsb hkB hfa hfe]
  rfl
 have hdl:(cs.drop (i*3)).length=(n - i)*3:=by rw [List.length_drop,hcl,Nat.sub_mul]
 have hcp1:∀ ty dc sc,(Builtin.copy_ #[39,39] ty #[.slice (some ⟨b,off+k*3,none⟩) (n+1 - k) dc,.slice (some ⟨b,off+i*3,none⟩) (n+1 - i) sc]).run Tryz.prog w.drew=.ok (goInt ((n - i:Nat):Int)) (w.drew.setCells b (off+k*3) (cs.drop (i*3))):=fun ty dc sc =>
  run_copy2 w.drew _ _ ty 69 3 b (off+k*3) (n - i) (n+1 - k) dc ⟨b,off+i*3,none⟩ (n+1 - i) sc (cs.drop (i*3)) u41 hsz (by simp only [Nat.min_def]; split <;> omega) hdl
   (fun j v hj=>by rw [Addr.add_lit,Nat.add_assoc]; exact hcs (i*3+j) v (by rwa [List.getElem?_drop] at hj))
   (fun j hj=>by rw [hdl] at hj; rw [Nat.add_assoc]; exact hsp _ (by omega)) (fun j hj=>by rw [hdl] at hj; rw [Nat.add_assoc]; exact hfz _ (by omega)) (fun v hv=>h1c v (List.mem_of_mem_drop hv))
 obtain ⟨W1,hW1⟩:∃ W1,W1=w.drew.setCells b (off+k*3) (cs.drop (i*3)):=⟨_,rfl⟩
 have hsp1:∀ t,t<(n+1)*3→(W1.cell? ⟨b,off+t,none⟩).isSome=true:=fun t ht=>by
  rw [hW1]
  exact isSome_set b _ _ _ (fun j hj=>by rw [hdl] at hj; rw [Nat.add_assoc]; exact hsp _ (by omega)) _ (hsp t ht)
 have hcp2:∀ (W:World),(∀ x,W.cell? x=W1.cell? x)→(∀ x,W.frozen? x=W1.frozen? x)→∀ ty dc,(Builtin.copy_ #[39,39] ty #[.slice (some ⟨b,off+i*3,none⟩) (n+1 - i) dc,.slice (some ⟨vb,voff,none⟩) 1 vc]).run Tryz.prog W=.ok (goInt 1) (W.setCells b (off+i*3) vs):=fun W hWc hWf ty dc =>
  run_copy2 W _ _ ty 69 3 b (off+i*3) 1 (n+1 - i) dc ⟨vb,voff,none⟩ 1 vc vs u41 hsz (by simp only [Nat.min_def]; split <;> omega) (by rw [hvl])
   (fun j v hj=>by
    rw [Addr.add_lit,hWc,hW1,World.cell?_setCells_out b _ _ _ _ (fun h _=>absurd h hvb)]
    exact hvs j v hj)
   (fun j hj=>by rw [hvl] at hj; rw [hWc,Nat.add_assoc]; exact hsp1 _ (by omega)) (fun j hj=>by rw [hvl] at hj; rw [hWf,hW1,World.frozen?_setCells,Nat.add_assoc]; exact hfz _ (by omega)) h1v
 have hE:Hid (W1=w.drew.setCells b (off+k*3) (cs.drop (i*3))):=hW1
 rw [← hW1] at hcp1
 have hw1:IntKind.i64.wrap ((n:Int)+1)=((n+1:Nat):Int):=by rw [IntKind.wrap_i64]; omega
 have hw2:IntKind.i64.wrap ((i:Int)+1)=(k:Int):=by rw [IntKind.wrap_i64]; omega
 have hnc:¬ ((n:Int)+1 > (c:Int)):=by omega
 have hb2:¬ (c=k):=by omega
 have hb4:¬ (c=i):=by omega
 have hin:i≤n:=by omega
 have hkn:(k:Int)≤(n:Int)+1:=by omega
 have hin2:(i:Int)≤(n:Int)+1:=by omega
 have hin1:i≤n+1:=by omega
 clear hsp hfz hcs hvs hsp1 hW1 hsa hsb hfa hfe hk hdl
 go_enter Tryz.func140,Tryz.ntmps140
 go_wp2_with (simp only [hov])
 go_region_law_o (refine step_copy_runI rfl _ _ 39 39 rfl _ _ (by simp [Act.eval,Act.put]) (by simp [Act.eval,Act.put]) (hcp1 _ _ _) ?_)
 go_wp2_with (at_builtin; refine wpList_copy_runI _ rfl _ _ 39 39 rfl _ _ rfl rfl (hcp2 _ (fun _=>rfl) (fun _=>rfl) _ _) ?_)
 go_ret
 exact ⟨rfl,by rw [hE.out]⟩
theorem ins_end (base:Option Addr) (n c vb voff vc:Nat) (w w1:World) (v':Value) (hnc:n≤c) (hc63:c≤9223372036854775807) (hb:base=none→c=0) (hr:∀ ty,(Builtin.append_ #[39,39] ty #[.slice base n c,.slice (some ⟨vb,voff,none⟩) 1 vc]).run Tryz.prog w=.ok v' w1) :
  Calls Tryz.prog 140 #[.slice base n c,.int .i64 n,.slice (some ⟨vb,voff,none⟩) 1 vc] w fun e w'=>e=.returned v'∧w'=w1:=by
 have mixed:Tryz.prog.follows .mixedOrders=true:=by kernel_rfl
 cases base with
 | none =>
  have h0:=hb rfl
  subst h0
  obtain rfl:n=0:=by omega
  go_enter Tryz.func140,Tryz.ntmps140
  go_wp2_with (at_builtin; refine Lib.wpList_append_run _ rfl _ _ _ _ rfl _ _ rfl rfl _ _ (hr _) ?_)
  all_goals (go_ret; exact ⟨rfl,rfl⟩)
 | some a =>
  obtain ⟨ab,ao,asp⟩:=a
  go_enter Tryz.func140,Tryz.ntmps140
  go_wp2_with (at_builtin; refine Lib.wpList_append_run _ rfl _ _ _ _ rfl _ _ rfl rfl _ _ (hr _) ?_)
  all_goals (go_ret; exact ⟨rfl,rfl⟩)
theorem ins_grow (b off n i k vb voff vc:Nat) (cs vs:List Value) (w:World) (hk:k=i+1) (hi:i<n) (hbig:(n+1)*24≤140737488355328)
  (hcl:cs.length=n*3) (hvl:vs.length=3)
  (hcs:∀ j v,cs[j]?=some v→w.cell? ⟨b,off+j,none⟩=some v)
  (hvs:∀ j v,vs[j]?=some v→w.cell? ⟨vb,voff+j,none⟩=some v) (h1c:∀ v∈cs,v.oneCell'=true) (h1v:∀ v∈vs,v.oneCell'=true) :
  Calls Tryz.prog 140 #[.slice (some ⟨b,off,none⟩) n n,.int .i64 i,.slice (some ⟨vb,voff,none⟩) 1 vc] w fun e w' =>
   e=.returned (.slice (some ⟨w.heap.size,0,none⟩) (n+1) (grownCap w (n+1) n 69)) ∧
   w'=(((w.alloc (.cells ((cs.take (i*3)).toArray++Builtin.zeroCells zs.cells (n+1 - i)++Builtin.zeroCells zs.cells (grownCap w (n+1) n 69 - (n+1))) 69)).drew.setCells w.heap.size (i*3) vs).drew).setCells w.heap.size (k*3) (cs.drop (i*3)):=by
 obtain ⟨i0,hi0,hz0,hzs,hzb⟩:=info_parts info_seat
 have mixed:Tryz.prog.follows .mixedOrders=true:=by kernel_rfl
 have u41:=Tryz.underlying39
 have u3:=Tryz.underlying3
 have hz2:¬ ((i:Int)=(n:Int)):=by omega
 have hsz:(Tryz.prog.info? 69).map (·.size)=some 3:=by rw [hi0]; simp [hzs]
 have hbw:b<w.heap.size:=block_lt_of_cell (hcs 0 _ (List.getElem?_eq_getElem (by omega)))
 have hvw:vb<w.heap.size:=block_lt_of_cell (hvs 0 _ (List.getElem?_eq_getElem (by omega)))
 have hik:i+(n+1 - i)=n+1:=by omega
 have hold:(Builtin.firstCells i0.size i (.slice (some ⟨b,off,none⟩) i n)).run Tryz.prog w.drew=.ok (cs.take (i*3)).toArray w.drew:=by
  rw [hzs]
  exact run_firstCells_some w.drew 3 i ⟨b,off,none⟩ i n (cs.take (i*3)) (by rw [List.length_take]; omega) (fun j v hj=>by
   rw [Addr.add_lit]
   rw [List.getElem?_take] at hj
   split at hj
   ·exact hcs j v hj
   ·cases hj)
 have hkk:IntKind.i64.wrap (((n+1:Nat):Int) - (i:Int))=((n+1 - i:Nat):Int):=by rw [IntKind.wrap_i64]; omega
 have hrz:∀ ty,(Builtin.append_ #[39,3] ty #[.slice (some ⟨b,off,none⟩) i n,.int .i64 ((n+1 - i:Nat):Int)]).run Tryz.prog w =
   .ok (.slice (some ⟨w.heap.size,0,none⟩) (n+1) (grownCap w (n+1) n 69)) (w.drew.alloc (.cells ((cs.take (i*3)).toArray++Builtin.zeroCells zs.cells (n+1 - i)++Builtin.zeroCells zs.cells (grownCap w (n+1) n 69 - (n+1))) 69)):=fun ty=>by
  have h:=Lib.run_append_grow_zeros w 39 3 ty 69 i0 zs .i64 .i64 u41 u3 hi0 hz0 (some ⟨b,off,none⟩) i n (cs.take (i*3)) hold (n+1 - i) (by omega) (by omega) (by omega) (by omega) (by rw [hzb]; omega) (by rw [hzb,hik]; exact growslice_fits (by omega) hbig)
  rw [hik] at h
  exact h
 obtain ⟨G,hG⟩:∃ G,G=grownCap w (n+1) n 69:=⟨_,rfl⟩
 obtain ⟨ROW,hROW⟩:∃ ROW:Array Value,ROW=(cs.take (i*3)).toArray++Builtin.zeroCells zs.cells (n+1 - i)++Builtin.zeroCells zs.cells (G - (n+1)):=⟨_,rfl⟩
 rw [← hG] at hrz ⊢
 rw [← hROW] at hrz ⊢
 have hRl:(n+1)*3≤ROW.size:=by
  rw [hROW]
  simp [Builtin.zeroCells,Value.cells,hcl]
  omega
 obtain ⟨W1,hW1⟩:∃ W1,W1=w.drew.alloc (.cells ROW 69):=⟨_,rfl⟩
 rw [← hW1] at hrz
 have hN:∀ j,j<(n+1)*3→(W1.cell? ⟨w.heap.size,j,none⟩).isSome=true:=fun j hj=>by
  rw [hW1,World.cell?_alloc_at (w:=w.drew) ROW _ w.heap.size j rfl,Array.getElem?_eq_getElem (by omega)]; rfl
 have hNf:∀ j,W1.frozen? ⟨w.heap.size,j,none⟩=false:=fun j=>by rw [hW1]; exact World.frozen?_alloc_at (w:=w.drew) ROW _ w.heap.size j rfl
 have hOb:∀ j v,w.cell? ⟨b,j,none⟩=some v→W1.cell? ⟨b,j,none⟩=some v:=fun j v h=>by rw [hW1,World.cell?_alloc_past (w:=w.drew) _ b j hbw]; exact h
 have hOv:∀ j v,w.cell? ⟨vb,j,none⟩=some v→W1.cell? ⟨vb,j,none⟩=some v:=fun j v h=>by rw [hW1,World.cell?_alloc_past (w:=w.drew) _ vb j hvw]; exact h
 have hcpA:∀ (W:World),(∀ x,W.cell? x=W1.cell? x)→(∀ x,W.frozen? x=W1.frozen? x)→∀ ty dc,(Builtin.copy_ #[39,39] ty #[.slice (some ⟨w.heap.size,i*3,none⟩) (n+1 - i) dc,.slice (some ⟨vb,voff,none⟩) 1 vc]).run Tryz.prog W=.ok (goInt 1) (W.setCells w.heap.size (i*3) vs):=fun W hWc hWf ty dc =>
  run_copy2 W _ _ ty 69 3 w.heap.size (i*3) 1 (n+1 - i) dc ⟨vb,voff,none⟩ 1 vc vs u41 hsz (by simp only [Nat.min_def]; split <;> omega) (by rw [hvl])
   (fun j v hj=>by rw [Addr.add_lit,hWc]; exact hOv _ v (hvs j v hj))
   (fun j hj=>by rw [hvl] at hj; rw [hWc]; exact hN _ (by omega)) (fun j hj=>by rw [hWf]; exact hNf _) h1v
 have hGn:n+1≤G:=by rw [hG]; exact grownCap_ge w _ _ _
 have hG63:G≤9223372036854775807:=by
  have:=grownCap_le_maxLen w (n+1) n 69 (by unfold maxLen; omega)
  rw [← hG] at this
  unfold maxLen at this
  omega
 have hbN:b≠w.heap.size:=by omega
 have hdl:(cs.drop (i*3)).length=(n - i)*3:=by rw [List.length_drop,hcl,Nat.sub_mul]
 have hcpB:∀ (W:World),(∀ x,W.cell? x=(W1.setCells w.heap.size (i*3) vs).cell? x)→(∀ x,W.frozen? x=(W1.setCells w.heap.size (i*3) vs).frozen? x)→∀ ty dc sc,(Builtin.copy_ #[39,39] ty #[.slice (some ⟨w.heap.size,k*3,none⟩) (n+1 - k) dc,.slice (some ⟨b,off+i*3,none⟩) (n - i) sc]).run Tryz.prog W=.ok (goInt ((n - i:Nat):Int)) (W.setCells w.heap.size (k*3) (cs.drop (i*3))):=fun W hWc hWf ty dc sc =>
  run_copy2 W _ _ ty 69 3 w.heap.size (k*3) (n - i) (n+1 - k) dc ⟨b,off+i*3,none⟩ (n - i) sc (cs.drop (i*3)) u41 hsz (by simp only [Nat.min_def]; split <;> omega) hdl
   (fun j v hj=>by
    rw [Addr.add_lit,hWc,World.cell?_setCells_out _ _ _ _ _ (fun h _=>absurd h hbN),Nat.add_assoc]
    exact hOb _ v (hcs (i*3+j) v (by rwa [List.getElem?_drop] at hj)))
   (fun j hj=>by rw [hdl] at hj; rw [hWc]; exact isSome_set _ _ _ _ (fun t ht=>by rw [hvl] at ht; exact hN _ (by omega)) _ (hN _ (by omega)))
   (fun j hj=>by rw [hWf,World.frozen?_setCells]; exact hNf _) (fun v hv=>h1c v (List.mem_of_mem_drop hv))
 subst hW1
 have hE1:∀ x,((w.alloc (.cells ROW 69)).drew).cell? x=(w.drew.alloc (.cells ROW 69)).cell? x:=fun x=>rfl
 have hE2:∀ x,((w.alloc (.cells ROW 69)).drew).frozen? x=(w.drew.alloc (.cells ROW 69)).frozen? x:=fun x=>rfl
 have hF1:∀ x,(((w.alloc (.cells ROW 69)).drew.setCells w.heap.size (i*3) vs).drew).cell? x=((w.drew.alloc (.cells ROW 69)).setCells w.heap.size (i*3) vs).cell? x:=fun x=>rfl
 have hF2:∀ x,(((w.alloc (.cells ROW 69)).drew.setCells w.heap.size (i*3) vs).drew).frozen? x=((w.drew.alloc (.cells ROW 69)).setCells w.heap.size (i*3) vs).frozen? x:=fun x=>rfl
 have hw1:IntKind.i64.wrap ((n:Int)+1)=((n+1:Nat):Int):=by rw [IntKind.wrap_i64]; omega
 have hw2:IntKind.i64.wrap ((i:Int)+1)=(k:Int):=by rw [IntKind.wrap_i64]; omega
 have hw3:IntKind.i64.wrap ((n:Int)+1 - (i:Int))=((n+1 - i:Nat):Int):=by rw [IntKind.wrap_i64]; omega
 have hw4:(n:Int)+1 - (i:Int)=((n+1 - i:Nat):Int):=by omega
 have hgt:(n:Int)+1 > (n:Int):=by omega
 have hci:¬ (n=i):=by omega
 have hGi:¬ (G=i):=by omega
 have hGk:¬ (G=k):=by omega
 have hin:i≤n:=by omega
 have hinZ:(i:Int)≤(n:Int):=by omega
 have hknZ:(k:Int)≤(n:Int)+1:=by omega
 have hinZ1:(i:Int)≤(n:Int)+1:=by omega
 clear hold hROW hG hRl hik hk
 go_enter Tryz.func140,Tryz.ntmps140
 go_wp2_with (first
  | (at_builtin; refine Lib.wpList_append_run _ rfl _ _ _ _ rfl _ _ rfl rfl _ _ (hrz _) ?_)
  | (at_builtin; refine wpList_copy_runI _ rfl _ _ 39 39 rfl _ _ rfl rfl (hcpA _ hE1 hE2 _ _) ?_))
 go_region_law_o (refine step_copy_runI rfl _ _ 39 39 rfl (.slice (some ⟨w.heap.size,k*3,none⟩) (n+1 - k) (G - k)) (.slice (some ⟨b,off+i*3,none⟩) (n - i) (n - i)) (by simp [Act.eval,Act.put]) (by simp [Act.eval,Act.put]) (hcpB _ hF1 hF2 3 (G - k) (n - i)) ?_)
 go_wp2
 go_ret
 exact ⟨rfl,rfl⟩
end Go.Proofs.YthbbbhpjkgpdcaaGreat.HS
namespace Go.Proofs.YthbbbhpjkgpdcaaGreat
set_option maxRecDepth 100000
set_option maxHeartbeats 4000000
open Go.RowKit Go.Lib
theorem setCells_heap (b:Nat) (e:TypeId) (fz:Nat × Nat):∀ (vs:List Value) (o:Nat) (w:World) (arr:Array Value),w.heap[b]?=some (.cells arr e fz)→o+vs.length≤arr.size →
  ∃ arr':Array Value,(w.setCells b o vs).heap[b]?=some (.cells arr' e fz)∧arr'.size=arr.size∧(∀ k,k<o∨o+vs.length≤k→arr'[k]?=arr[k]?)∧(∀ j v,vs[j]?=some v→arr'[o+j]?=some v)
 | [],o,w,arr,h,_=>⟨arr,h,rfl,fun _ _=>rfl,fun j v hj=>by simp at hj⟩
 | v::r,o,w,arr,h,hl=>by
  have hl':o+(r.length+1)≤arr.size:=hl
  have h1:(w.setCell ⟨b,o,none⟩ v).heap[b]?=some (.cells (arr.setIfInBounds o v) e fz):=by
   simp [World.setCell,Array.getElem?_modify,h]
  obtain ⟨arr',k1,k2,k3,k4⟩:=setCells_heap b e fz r (o+1) _ _ h1 (by simp; omega)
  refine ⟨arr',k1,by rw [k2]; simp,fun k hk=>?_,fun j u hj=>?_⟩
  ·have hk:k<o∨o+(r.length+1)≤k:=hk
   rw [k3 k (by omega),Array.getElem?_setIfInBounds,if_neg (by omega)]
  ·cases j with
   | zero =>
    simp only [List.getElem?_cons_zero,Option.some.injEq] at hj
    subst hj
    rw [Nat.add_zero,k3 o (.inl (by omega)),Array.getElem?_setIfInBounds,if_pos rfl,if_pos (by omega)]
   | succ j =>
    have:=k4 j u (by simpa using hj)
    rwa [show o+(j+1)=o+1+j from by omega]
theorem setCells_else (b:Nat):∀ (vs:List Value) (o:Nat) (w:World),(w.setCells b o vs).os=w.os∧(w.setCells b o vs).tape=w.tape∧(w.setCells b o vs).output=w.output∧(w.setCells b o vs).heap.size=w.heap.size∧∀ k,k≠b→(w.setCells b o vs).heap[k]?=w.heap[k]?
 | [],o,w=>⟨rfl,rfl,rfl,rfl,fun _ _=>rfl⟩
 | v::r,o,w=>by
  obtain ⟨h1,h2,h3,h4,h5⟩:=setCells_else b r (o+1) (w.setCell ⟨b,o,none⟩ v)
  refine ⟨h1,h2,h3,h4.trans (by simp [World.setCell]),fun k hk=>(h5 k hk).trans ?_⟩
  simp only [World.setCell,Array.getElem?_modify]
  rw [if_neg (by simpa using Ne.symm hk)]
abbrev cellRow:List S:= [.int .i64,.int .i64]
theorem row_cell:rowOf Tryz.prog 148=some cellRow:=by kernel_rfl
def cellsV (rows:List (List D)):List Value:=rows.flatMap fun r => [.int .i64 (gd r 0).int,.int .i64 (gd r 1).int]
theorem cellsV_len:∀ rows,(cellsV rows).length=rows.length*2
 | []=>rfl
 | r::rs=>by
  have:=cellsV_len rs
  simp only [cellsV,List.flatMap_cons,List.length_append,List.length_cons,List.length_nil] at *
  omega
theorem cellsV_cons (r:List D) (rs:List (List D)):cellsV (r::rs)=.int .i64 (gd r 0).int::.int .i64 (gd r 1).int::cellsV rs:=rfl
theorem cellsV_get:∀ (rows:List (List D)) (i:Nat),i<rows.length→(cellsV rows)[i*2]?=some (.int .i64 (gd (rows.getD i []) 0).int)∧(cellsV rows)[i*2+1]?=some (.int .i64 (gd (rows.getD i []) 1).int)
 | [],i,h=>by simp at h
 | r::rs,0,_=>⟨rfl,rfl⟩
 | r::rs,i+1,h=>by
  have:=cellsV_get rs i (by simpa using h)
  rw [cellsV_cons,show (i+1)*2=i*2+1+1 from by omega]
  exact this
theorem cellsV_all {F:Nat→Value→Prop} {rows:List (List D)} (h:∀ i,i<rows.length→F (i*2) (.int .i64 (gd (rows.getD i []) 0).int)∧F (i*2+1) (.int .i64 (gd (rows.getD i []) 1).int)) {k:Nat} {v:Value} (hk:(cellsV rows)[k]?=some v):F k v:=by
 have hlt:=(List.getElem?_eq_some_iff.1 hk).1
 rw [cellsV_len] at hlt
 have hi:k / 2<rows.length:=by omega
 obtain ⟨h1,h2⟩:=cellsV_get rows (k / 2) hi
 obtain ⟨q1,q2⟩:=h (k / 2) hi
 rcases Nat.mod_two_eq_zero_or_one k with hm | hm
 ·have e:k / 2*2=k:=by omega
  rw [e] at h1 q1
  rw [hk] at h1; injection h1 with h1; rw [h1]; exact q1
 ·have e:k / 2*2+1=k:=by omega
  rw [e] at h2 q2
  rw [hk] at h2; injection h2 with h2; rw [h2]; exact q2
theorem cellsV_one (rows:List (List D)):∀ v∈cellsV rows,v.oneCell'=true:=fun v hv=>by
 obtain ⟨k,hk⟩:=List.getElem?_of_mem hv
 exact cellsV_all (F:=fun _ v=>v.oneCell'=true) (fun i _=>⟨rfl,rfl⟩) hk
theorem ownK_cell {w:World} {rows:List (List D)} {b cap:Nat} {arr:Array Value} (hh:w.heap[b]?=some (.cells arr 148 (0,0))) (hs:arr.size=cap*2) (hle:rows.length≤cap) (h63:cap≤9223372036854775807)
  (hc:∀ i,i<rows.length→arr[i*2]?=some (.int .i64 (gd (rows.getD i []) 0).int)∧arr[i*2+1]?=some (.int .i64 (gd (rows.getD i []) 1).int)):OwnK w 148 cellRow rows (.slice (some ⟨b,0,none⟩) rows.length cap) (some b):=by
 refine .inr ⟨b,cap,arr,rfl,rfl,hle,h63,hh,hs,fun i j s hi hs=>?_⟩
 obtain ⟨h1,h2⟩:=hc i hi
 match j,hs with
 | 0,hs=>injection hs with hs; subst hs; exact ⟨_,h1,rfl⟩
 | 1,hs=>injection hs with hs; subst hs; exact ⟨_,h2,rfl⟩
theorem ownK_at {w:World} {rows:List (List D)} {u:Value} {B:Option Nat} (h:OwnK w 148 cellRow rows u B):(B=none∧rows = []∧∃ A,u=.slice A 0 0) ∨
  ∃ (b cap:Nat) (arr:Array Value),B=some b∧u=.slice (some ⟨b,0,none⟩) rows.length cap∧rows.length≤cap∧cap≤9223372036854775807∧w.heap[b]?=some (.cells arr 148 (0,0))∧arr.size=cap*2 ∧
   ∀ i,i<rows.length→arr[i*2]?=some (.int .i64 (gd (rows.getD i []) 0).int)∧arr[i*2+1]?=some (.int .i64 (gd (rows.getD i []) 1).int):=by
 rcases h with h | ⟨b,cap,arr,h1,h2,h3,h4,h5,h6,h7⟩
 ·exact .inl h
 ·refine .inr ⟨b,cap,arr,h1,h2,h3,h4,h5,h6,fun i hi=>?_⟩
  obtain ⟨u0,k1,k2⟩:=h7 i 0 (.int .i64) hi rfl
  obtain ⟨u1,k3,k4⟩:=h7 i 1 (.int .i64) hi rfl
  rw [k2] at k1
  rw [k4] at k3
  exact ⟨k1,k3⟩
theorem vd_cells {w:World} {prot:Nat→Nat} {x:D} {v:Value} (h:VD Tryz.prog w prot (.sl 148) x v):∃ A c,v=.slice A x.rows.length c∧x.rows.length≤c∧c≤9223372036854775807 ∧
  (0<x.rows.length→∃ b o,A=some ⟨b,o,none⟩)∧∀ b o,A=some ⟨b,o,none⟩→∀ k v,(cellsV x.rows)[k]?=some v→w.cell? ⟨b,o+k,none⟩=some v∧o+k<prot b:=by
 cases h with
 | sl e d A c row u hr h1 h2 h3 h4 =>
  rw [row_cell] at hr
  injection hr with hr
  subst hr
  refine ⟨A,c,rfl,h1,h2,fun h0=>?_,fun b o hA k v hk=>?_⟩
  ·obtain ⟨b,o,hA,_⟩:=h3 0 0 h0 (by decide)
   exact ⟨b,o,hA⟩
  ·subst hA
   have hb:∀ i j,i<x.rows.length→j<2→∃ v,w.cell? ⟨b,o+(i*2+j),none⟩=some v∧o+(i*2+j)<prot b∧v=.int .i64 (gd (x.rows.getD i []) j).int:=fun i j hi hj=>by
    obtain ⟨b',o',hA,hc,hp⟩:=h3 i j hi hj
    injection hA with hA
    injection hA with e1 e2 _
    subst e1; subst e2
    have hv:=h4 i j (.int .i64) hi (by match j,hj with | 0,_=>rfl | 1,_=>rfl)
    generalize u i j=z at *
    cases hv
    exact ⟨_,hc,hp,rfl⟩
   refine cellsV_all (F:=fun k v=>w.cell? ⟨b,o+k,none⟩=some v∧o+k<prot b) (fun i hi=>?_) hk
   obtain ⟨v0,q1,q2,rfl⟩:=hb i 0 hi (by decide)
   obtain ⟨v1,q3,q4,rfl⟩:=hb i 1 hi (by decide)
   exact ⟨⟨by simpa using q1,by simpa using q2⟩,q3,q4⟩
theorem clone_cell (a:Addr) (n c:Nat) (news:List Value) (w:World) (hl:news.length=n*2) (hn:n≤1000000) (hc:∀ j u,news[j]?=some u→w.cell? (a.add j)=some u) (h1:∀ u∈news,u.oneCell'=true) :
  Calls Tryz.prog 153 #[.slice (some a) n c] w fun e w'=>∃ v',e=.returned v'∧w'.ownsRow w.heap.size 148 2 v' n news∧Below w.heap.size w w':=by
 obtain ⟨i0,hi0,hz0,hzs,hzb⟩:=info_parts H.info_cell
 have mixed:Tryz.prog.follows .mixedOrders=true:=by kernel_rfl
 have q22:∀ (w:World) (a:Option Addr) (n c n' c':Nat),(binOp .eql 38 (.slice a n c) (.slice none n' c')).run Tryz.prog w=.ok (.bool a.isNone) w:=fun w a n c n' c'=>Lib.run_eql_slice_nil w _ _ a n c n' c' Tryz.underlying38
 have A:Aside (∀ j u,news[j]?=some u→w.cell? (a.add j)=some u):=hc
 clear hc
 go_enter Tryz.func153,Tryz.ntmps153
 go_wp2_with (at_builtin; refine wpList_append_own _ rfl _ _ 38 rfl w.heap.size 148 i0 H.zc 2 16 Tryz.underlying38 hi0 hz0 hzs hzb rfl (by decide) _ _ _ rfl (World.ownsRow_made w #[] 0 (Nat.le_refl _) (Nat.zero_le _) (by simp)) a n c news rfl ?qc1 ?qc2 ?qc3 ?qc4 ?qc5 ?qc6 ?_)
 case qc1=>exact hl
 case qc2 =>
  intro j u hj
  exact Lib.cell?_alloc_some _ (A.out j u hj)
 case qc3=>exact h1
 case qc4=>rw [Nat.zero_add]; unfold maxLen; omega
 case qc5=>rw [Nat.zero_add]; omega
 case qc6=>simp
 intro v' w1 hown hgrow hnil
 go_wp2
 go_ret
 refine ⟨v',rfl,by simpa using hown,?_⟩
 exact ((Below.refl _ w).alloc (Nat.le_refl _) _).grown hgrow (by simp) (by intro k hk; simp [Value.ownBlock] at hk; omega)
theorem clone_nil (n c:Nat) (w:World) :
  Calls Tryz.prog 153 #[.slice none n c] w fun e w'=>e=.returned (.slice none 0 0)∧w'=w:=by
 have mixed:Tryz.prog.follows .mixedOrders=true:=by kernel_rfl
 have q22:∀ (w:World) (a:Option Addr) (n c n' c':Nat),(binOp .eql 38 (.slice a n c) (.slice none n' c')).run Tryz.prog w=.ok (.bool a.isNone) w:=fun w a n c n' c'=>Lib.run_eql_slice_nil w _ _ a n c n' c' Tryz.underlying38
 go_enter Tryz.func153,Tryz.ntmps153
 go_wp2
 go_ret
 exact ⟨rfl,rfl⟩
theorem res_cells {prot:Nat→Nat} {w w':World} {x:D} {v:Value} (hfr:∀ b,w.heap.size≤b→prot b=0) (hb:Below w.heap.size w w') (ho:w'.ownsRow w.heap.size 148 2 v x.rows.length (cellsV x.rows)) :
  ∃ g',Res Tryz.prog prot w w' ⟨.one (.c (.own (0,0) true 148)),[x]⟩ v g':=by
 obtain ⟨hl,⟨rfl,h0⟩ | ⟨blk,cap,cur,rfl,hblk,hh,hcap,hmax,hsz,htk⟩⟩:=ho
 ·exact ⟨g0 0 prot,hb,⟨cellRow,row_cell,.inl ⟨List.eq_nil_of_length_eq_zero h0,rfl,none,rfl⟩⟩,fun _ _=>rfl,fun b hb'=>⟨hfr b (Nat.le_trans hb.size hb'),rfl⟩⟩
 ·refine ⟨⟨prot,fun b=>if b=blk then some (.inr (0,0)) else none,fun _=>0,fun _=>blk,fun _=>x.rows.length,fun _=>2,fun _=>148,fun _ => [],fun _=>0,fun _=>False⟩,hb,⟨cellRow,row_cell,.inr ⟨cap,cur,148,rfl,hcap,⟨by unfold maxLen at hmax; omega,rfl,rfl⟩,hblk,if_pos rfl,hh,hsz,rfl,rfl,?_,?_⟩⟩,fun _ _=>rfl,fun b hb'=>⟨hfr b (Nat.le_trans hb.size hb'),?_⟩⟩
  ·show prot blk=0
   exact hfr blk hblk
  ·intro i j s hi hs
   have hi:i<x.rows.length:=hi
   obtain ⟨q1,q2⟩:=cellsV_get x.rows i hi
   rw [← htk,List.getElem?_take,if_pos (by omega)] at q1 q2
   match j,hs with
   | 0,hs =>
    injection hs with hs
    subst hs
    exact ⟨.int .i64 (gd (x.rows.getD i []) 0).int,by simpa using q1,.of_vd (.int .i64 _) (.inr rfl)⟩
   | 1,hs =>
    injection hs with hs
    subst hs
    exact ⟨.int .i64 (gd (x.rows.getD i []) 1).int,by simpa using q2,.of_vd (.int .i64 _) (.inr rfl)⟩
  ·have:=lt_of_heap hh
   exact if_neg (by omega)
def i_clonCE:Ent:=(153,e1 (sd (.sl 148)) fun p=>(⟨.one (.c (.own (0,0) true 148)),[.l (gd p 0).rows]⟩,leI ((gd p 0).rows.length:Int) 1000000))
theorem i_clonC_ok:EntOk Tryz.prog i_clonCE:=e1_ok fun p h=>by
 have h:leI ((gd p 0).rows.length:Int) 1000000=true:=h
 simp only [leI,decide_eq_true_eq] at h
 refine SoundFn.of rfl ⟨enters Tryz.func153 (by kernel_rfl) (by kernel_rfl),fun w prot vs hargs hfr=>?_⟩
 obtain ⟨u,hu,hv⟩:=hargs.2 0 _ rfl
 have hvs:vs = #[u]:=by
  have hs:vs.size=1:=hargs.1
  refine Array.ext (by simpa using hs) fun i h1 h2=>?_
  have:i=0:=by omega
  subst this
  rw [Array.getElem?_eq_getElem h1] at hu
  injection hu
 subst hvs
 have hv:VD Tryz.prog w prot (.sl 148) (gd p 0) u:=hv
 generalize gd p 0=x at *
 obtain ⟨A,c,rfl,h1,h2,h3,h4⟩:=vd_cells hv
 cases A with
 | none =>
  have h0:x.rows.length=0:=by
   rcases Nat.eq_zero_or_pos x.rows.length with h' | h'
   ·exact h'
   ·obtain ⟨b,o,hA⟩:=h3 h'
    cases hA
  have hx0:x.rows = []:=List.eq_nil_of_length_eq_zero h0
  refine (clone_nil x.rows.length c w).mono ?_
  rintro ex w' ⟨rfl,rfl⟩
  obtain ⟨g',hg⟩:=res_cells (x:=x) (prot:=prot) (w:=w') (w':=w') hfr (Below.refl _ _) (v:=.slice none 0 0) ⟨cellsV_len _,.inl ⟨rfl,h0⟩⟩
  exact ⟨_,g',rfl,hg.below,hg.val,hg.prot,hg.fresh⟩
 | some ad =>
  refine (clone_cell ad x.rows.length c (cellsV x.rows) w (cellsV_len _) (by omega) (fun j u hj=>?_) (cellsV_one _)).mono ?_
  ·have hpos:0<x.rows.length:=by
    have:=(List.getElem?_eq_some_iff.1 hj).1
    rw [cellsV_len] at this
    omega
   obtain ⟨b,o,hA⟩:=h3 hpos
   injection hA with hA
   subst hA
   rw [Addr.add_lit]
   exact (h4 b o rfl j u hj).1
  ·rintro ex w' ⟨v',rfl,hown,hbel⟩
   obtain ⟨g',hg⟩:=res_cells (x:=x) (prot:=prot) hfr hbel hown
   exact ⟨_,g',rfl,hg.below,hg.val,hg.prot,hg.fresh⟩
theorem cellsV_app (a b:List (List D)):cellsV (a++b)=cellsV a++cellsV b:=by simp [cellsV]
theorem cellsV_take:∀ (rows:List (List D)) (i:Nat),cellsV (rows.take i)=(cellsV rows).take (i*2)
 | [],i=>by simp [cellsV]
 | r::rs,0=>by simp [cellsV]
 | r::rs,i+1=>by
  rw [List.take_succ_cons,cellsV_cons,cellsV_cons,cellsV_take rs i,show (i+1)*2=i*2+1+1 from by omega,List.take_succ_cons,List.take_succ_cons]
theorem cellsV_drop:∀ (rows:List (List D)) (i:Nat),cellsV (rows.drop i)=(cellsV rows).drop (i*2)
 | [],i=>by simp [cellsV]
 | r::rs,0=>by simp [cellsV]
 | r::rs,i+1=>by
  rw [List.drop_succ_cons,cellsV_cons,cellsV_drop rs i,show (i+1)*2=i*2+1+1 from by omega,List.drop_succ_cons,List.drop_succ_cons]
theorem ownK_mk {w:World} {rows:List (List D)} {b cap n:Nat} {arr:Array Value} (hh:w.heap[b]?=some (.cells arr 148 (0,0))) (hn:n=rows.length) (hs:arr.size=cap*2) (hle:rows.length≤cap) (h63:cap≤9223372036854775807)
  (hc:∀ (k:Nat) v,(cellsV rows)[k]?=some v→arr[k]?=some v):OwnK w 148 cellRow rows (.slice (some ⟨b,0,none⟩) n cap) (some b):=by
 subst hn
 exact ownK_cell hh hs hle h63 fun i hi=>⟨hc _ _ (cellsV_get rows i hi).1,hc _ _ (cellsV_get rows i hi).2⟩
theorem ownK_get {w:World} {rows:List (List D)} {u:Value} {B:Option Nat} (h:OwnK w 148 cellRow rows u B):(B=none∧rows = []∧∃ A,u=.slice A 0 0) ∨
  ∃ (b cap:Nat) (arr:Array Value),B=some b∧u=.slice (some ⟨b,0,none⟩) rows.length cap∧rows.length≤cap∧cap≤9223372036854775807∧w.heap[b]?=some (.cells arr 148 (0,0))∧arr.size=cap*2 ∧
   ∀ (k:Nat) v,(cellsV rows)[k]?=some v→arr[k]?=some v:=by
 rcases ownK_at h with h | ⟨b,cap,arr,h1,h2,h3,h4,h5,h6,h7⟩
 ·exact .inl h
 ·exact .inr ⟨b,cap,arr,h1,h2,h3,h4,h5,h6,fun k v hk=>cellsV_all (F:=fun k v=>arr[k]?=some v) h7 hk⟩
theorem vd_int {P:Program} {w:World} {prot:Nat→Nat} {k:IntKind} {x:D} {v:Value} (h:VD P w prot (.int k) x v):v=.int k x.int:=by
 cases h; rfl
theorem args_at {P:Program} {prot:Nat→Nat} {w:World} {args:List T} {vs:Array Value} (h:ArgsV P prot w args vs) (us:List Value) (hl:us.length=args.length) (hu:∀ (j:Nat) t u,args[j]?=some t→vs[j]?=some u→us[j]?=some u):vs=us.toArray:=by
 refine Array.ext (by simp [h.1,hl]) fun i h1 h2=>?_
 have hi:i<args.length:=by rw [← h.1]; exact h1
 have:=hu i _ _ (List.getElem?_eq_getElem hi) (Array.getElem?_eq_getElem h1)
 rw [List.getElem?_eq_getElem (by omega)] at this
 simp only [Option.some.injEq] at this
 simpa using this.symm
theorem args_ii {P:Program} {prot:Nat→Nat} {w:World} {q r:List D} {vs:Array Value} (h:ArgsV P prot w [⟨ri,q⟩,⟨ri,r⟩] vs):vs = #[.int .i64 (gd q 0).int,.int .i64 (gd r 0).int]:=by
 refine args_at h [.int .i64 (gd q 0).int,.int .i64 (gd r 0).int] rfl fun j t u h1 h2=>?_
 obtain ⟨u',k1,k2⟩:=h.2 j t h1
 rw [h2] at k1; injection k1 with k1; subst k1
 match j,h1 with
 | 0,h1 =>
  injection h1 with h1; subst h1
  have:=vd_int (k:=.i64) (show VD P w prot (.int .i64) (gd q 0) u from k2)
  rw [this]; rfl
 | 1,h1 =>
  injection h1 with h1; subst h1
  have:=vd_int (k:=.i64) (show VD P w prot (.int .i64) (gd r 0) u from k2)
  rw [this]; rfl
theorem cell_at {w:World} {b:Nat} {arr:Array Value} {e:TypeId} {fz:Nat × Nat} (h:w.heap[b]?=some (.cells arr e fz)) (k:Nat):w.cell? ⟨b,k,none⟩=arr[k]?:=by
 simp [World.cell?,h]
theorem unfrozen {w:World} {b:Nat} {arr:Array Value} {e:TypeId} (h:w.heap[b]?=some (.cells arr e (0,0))) (k:Nat):w.frozen? ⟨b,k,none⟩=false:=by
 simp [World.frozen?,h]
def delRows (rows:List (List D)) (i:Nat):List (List D):=rows.take i++rows.drop (i+1)
def i_delCE:Ent:=(164,e3 (sd (.sl 148)) ri ri fun p q r=>(⟨.tup [.agg [.any]],[.l (delRows (gd p 0).rows (gd q 0).int.toNat)]⟩,leI ((gd p 0).rows.length:Int) 1000000&&inRange (gd q 0).int (gd p 0).rows.length&&((gd r 0).int==(gd q 0).int+1)))
theorem i_delC_ok:EntOk Tryz.prog i_delCE:=e3_ok fun p q r h=>by
 have h:(leI ((gd p 0).rows.length:Int) 1000000&&inRange (gd q 0).int (gd p 0).rows.length&&((gd r 0).int==(gd q 0).int+1))=true:=h
 simp only [Bool.and_eq_true,leI,decide_eq_true_eq,beq_iff_eq] at h
 obtain ⟨⟨h1,h2⟩,h3⟩:=h
 obtain ⟨hq0,hq1⟩:0≤(gd q 0).int∧(gd q 0).int<((gd p 0).rows.length:Int):=by simpa [inRange] using h2
 refine SoundFn.ofK rfl ⟨enters Tryz.func164 (by kernel_rfl) (by kernel_rfl),fun e x rest row he hrow hflat w prot u B vs hO hB hfr hargs hko=>?_⟩
 injection he with he hre
 injection he with he hp
 injection he with he
 injection he with he
 injection he with he
 injection he with he
 subst he hp hre
 rw [row_cell] at hrow
 injection hrow with hrow
 subst hrow
 have hvs:=args_ii (hargs w (Changed.refl w B))
 subst hvs
 have h1:(x.rows.length:Int)≤1000000:=h1
 have hq1:(gd q 0).int<(x.rows.length:Int):=hq1
 obtain ⟨i,hi⟩:∃ i:Nat,(gd q 0).int=i:=⟨(gd q 0).int.toNat,by omega⟩
 obtain ⟨n,hn⟩:∃ n,n=x.rows.length:=⟨_,rfl⟩
 have hin:i<n:=by omega
 have hout:(gd [D.l (delRows x.rows (gd q 0).int.toNat)] 0).rows=delRows x.rows i:=by rw [hi]; rfl
 show Calls _ _ _ w fun ex w'=>∃ v' B',ex=.returned v'∧Changed w w' B∧OwnK w' _ _ (gd [D.l (delRows x.rows (gd q 0).int.toNat)] 0).rows v' B'∧_
 rw [hout]
 rcases ownK_get hO with ⟨_,h0,_⟩ | ⟨b,cap,arr,rfl,rfl,hle,h63,hh,hs,hc⟩
 ·rw [h0] at hn; simp at hn; omega
 ·rw [← hn] at hle ⊢
  have hcl:(cellsV x.rows).length=n*2:=by rw [cellsV_len,hn]
  have:=H.del_cell b 0 n cap i (i+1) (cellsV x.rows) w rfl hin hle h63 hcl (fun j v hj=>by rw [Nat.zero_add,cell_at hh]; exact hc j v hj) (fun j _=>unfrozen hh _) (cellsV_one _)
  rw [show (#[Value.slice (some ⟨b,0,none⟩) n cap] ++ #[.int .i64 (gd q 0).int,.int .i64 (gd r 0).int]:Array Value) = #[.slice (some ⟨b,0,none⟩) n cap,.int .i64 i,.int .i64 ((i+1:Nat):Int)] from by rw [hi,h3,hi]; rfl]
  refine this.mono ?_
  rintro ex w' ⟨rfl,rfl⟩
  have hdl:((cellsV x.rows).drop ((i+1)*2)).length=(n - (i+1))*2:=by rw [List.length_drop,hcl]; omega
  obtain ⟨arr1,a1,a2,a3,a4⟩:=setCells_heap b 148 (0,0) ((cellsV x.rows).drop ((i+1)*2)) (0+i*2) w.drew arr hh (by rw [hdl,hs]; omega)
  have hz:H.zc.cells.toList.length=2:=rfl
  obtain ⟨arr2,b1,b2,b3,b4⟩:=setCells_heap b 148 (0,0) H.zc.cells.toList (0+(n - 1)*2) _ arr1 a1 (by rw [hz,a2,hs]; omega)
  obtain ⟨c1,c2,c3,c4,c5⟩:=setCells_else b ((cellsV x.rows).drop ((i+1)*2)) (0+i*2) w.drew
  obtain ⟨d1,d2,d3,d4,d5⟩:=setCells_else b H.zc.cells.toList (0+(n - 1)*2) (w.drew.setCells b (0+i*2) ((cellsV x.rows).drop ((i+1)*2)))
  have hdr:(delRows x.rows i).length=n - 1:=by simp [delRows]; omega
  refine ⟨_,some b,rfl,⟨d1.trans c1,d2.trans c2,d3.trans c3,Nat.le_of_eq (d4.trans c4).symm,fun k _ hk=>(d5 k (fun e=>hk (by rw [e]))).trans (c5 k (fun e=>hk (by rw [e])))⟩,?_,fun b hb=>.inl hb⟩
  refine ownK_mk b1 hdr.symm (by rw [b2,a2,hs]) (by omega) h63 fun k v hk=>?_
  have hkl:=(List.getElem?_eq_some_iff.1 hk).1
  rw [cellsV_len,hdr] at hkl
  rw [b3 k (.inl (by omega))]
  unfold delRows at hk
  rw [cellsV_app,cellsV_take,cellsV_drop,List.getElem?_append] at hk
  have htl:((cellsV x.rows).take (i*2)).length=i*2:=by rw [List.length_take,hcl]; omega
  rw [htl] at hk
  split at hk
  ·rename_i hlt
   rw [a3 k (.inl (by omega))]
   rw [List.getElem?_take,if_pos hlt] at hk
   exact hc k v hk
  ·have:=a4 (k - i*2) v hk
   rwa [show 0+i*2+(k - i*2)=k from by omega] at this
theorem args_is {prot:Nat→Nat} {w:World} {q r:List D} {vs:Array Value} (h:ArgsV Tryz.prog prot w [⟨ri,q⟩,⟨sd (.sl 148),r⟩] vs):∃ u,vs = #[.int .i64 (gd q 0).int,u]∧VD Tryz.prog w prot (.sl 148) (gd r 0) u:=by
 obtain ⟨u,hu,hv⟩:=h.2 1 _ rfl
 refine ⟨u,?_,hv⟩
 refine args_at h [.int .i64 (gd q 0).int,u] rfl fun j t u' h1 h2=>?_
 match j,h1 with
 | 0,h1 =>
  injection h1 with h1; subst h1
  obtain ⟨u'',k1,k2⟩:=h.2 0 _ rfl
  rw [h2] at k1; injection k1 with k1; subst k1
  have:=vd_int (k:=.i64) (show VD Tryz.prog w prot (.int .i64) (gd q 0) u' from k2)
  rw [this]; rfl
 | 1,h1 =>
  rw [h2] at hu; injection hu with hu; subst hu
  rfl
theorem app_one {w:World} {rows:List (List D)} {r:List D} {base:Option Addr} {n c:Nat} {B:Option Nat} (hO:OwnK w 148 cellRow rows (.slice base n c) B) (vb voff vc:Nat) (hn:rows.length≤1000000)
  (hv:∀ (k:Nat) v,(cellsV [r])[k]?=some v→w.cell? ⟨vb,voff+k,none⟩=some v) :
  ∃ v' w1 B',(∀ ty,(Builtin.append_ #[38,38] ty #[.slice base n c,.slice (some ⟨vb,voff,none⟩) 1 vc]).run Tryz.prog w=.ok v' w1)∧Changed w w1 B∧OwnK w1 148 cellRow (rows ++ [r]) v' B'∧∀ b,B'=some b→B=some b∨w.heap.size≤b:=by
 obtain ⟨i0,hi0,hz0,hzs,hzb⟩:=info_parts H.info_cell
 have hl1:(cellsV [r]).length=1*i0.size:=by rw [hzs]; rfl
 have hnews:∀ (j:Nat) v,(cellsV [r])[j]?=some v→w.cell? ((⟨vb,voff,none⟩:Addr).add j)=some v:=fun j v hj=>by rw [Addr.add_lit]; exact hv j v hj
 have hzz:H.zc.cells.size=2:=rfl
 -- a new block
 have hnew:∀ (old:Nat),(w.drew.alloc (.cells ((cellsV rows).toArray++(cellsV [r]).toArray++Builtin.zeroCells H.zc.cells (grownCap w (rows.length+1) old 148 - (rows.length+1))) 148)).heap.size=w.heap.size+1 ∧
   Changed w (w.drew.alloc (.cells ((cellsV rows).toArray++(cellsV [r]).toArray++Builtin.zeroCells H.zc.cells (grownCap w (rows.length+1) old 148 - (rows.length+1))) 148)) B ∧
   OwnK (w.drew.alloc (.cells ((cellsV rows).toArray++(cellsV [r]).toArray++Builtin.zeroCells H.zc.cells (grownCap w (rows.length+1) old 148 - (rows.length+1))) 148)) 148 cellRow (rows ++ [r]) (.slice (some ⟨w.heap.size,0,none⟩) (rows.length+1) (grownCap w (rows.length+1) old 148)) (some w.heap.size):=by
  intro old
  have hge:=grownCap_ge w (rows.length+1) old 148
  have hcm:=grownCap_le_maxLen w (rows.length+1) old 148 (by unfold maxLen; omega)
  refine ⟨by simp [World.alloc],⟨rfl,rfl,rfl,by simp [World.alloc],fun k hk _=>Below.heap_alloc w.drew _ k hk⟩,ownK_mk (by letI:Low:=noLow; exact heap_new w.drew _) (by simp) ?_ (by simpa using hge) (by unfold maxLen at hcm; omega) fun k v hk=>?_⟩
  ·simp only [Array.size_append,List.size_toArray,cellsV_len,size_zeroCells,hzz,List.length_cons,List.length_nil]
   omega
  ·rw [cellsV_app] at hk
   have hkl:=(List.getElem?_eq_some_iff.1 hk).1
   rw [Array.getElem?_append_left (by simpa using hkl)]
   simpa using hk
 have hnot:B=none→rows = []∧n=0∧c=0:=by
  rintro rfl
  rcases hO with ⟨_,h0,A,hA⟩ | ⟨_,_,_,hb,_⟩
  ·injection hA with _ e1 e2; exact ⟨h0,e1,e2⟩
  ·cases hb
 rcases ownK_get hO with ⟨rfl,rfl,A,hA⟩ | ⟨b,cap,arr,rfl,hA,hle,h63,hh,hs,hc⟩
 ·injection hA with e0 e1 e2
  subst e0 e1 e2
  obtain ⟨_,q2,q3⟩:=hnew 0
  refine ⟨_,_,some w.heap.size,fun ty=>?_,q2,q3,fun b hb=>.inr (by injection hb with hb; omega)⟩
  cases base with
  | none =>
   have:=run_append_nil (P:=Tryz.prog) w 38 ty 148 i0 H.zc Tryz.underlying38 hi0 hz0 ⟨vb,voff,none⟩ 1 vc (cellsV [r]) hl1 hnews (by omega) (by omega) (by rw [hzb]; omega)
   rw [this]
   simp [cellsV]
  | some a =>
   have:=run_append_grow (P:=Tryz.prog) w 38 ty 148 i0 H.zc Tryz.underlying38 hi0 hz0 a 0 0 [] (by simp) (fun j v hj=>by simp at hj) ⟨vb,voff,none⟩ 1 vc (cellsV [r]) hl1 hnews (by omega) (by omega) (by rw [hzb]; exact growslice_fits (by omega) (by omega))
   rw [this]
   rfl
 ·injection hA with e0 e1 e2
  subst e0 e1 e2
  by_cases hroom:rows.length+1≤c
  ·have hfit:rows.length*i0.size+(cellsV [r]).length≤arr.size:=by rw [hzs,hs]; show _+2≤_; omega
   have hlv:(cellsV [r]).length=2:=rfl
   have hrl:(cellsV rows).length=rows.length*2:=cellsV_len rows
   refine ⟨_,_,some b,fun ty=>run_append_room (P:=Tryz.prog) w 38 ty 148 i0 Tryz.underlying38 hi0 b rows.length c arr hh ⟨vb,voff,none⟩ 1 vc (cellsV [r]) hl1 hnews (cellsV_one _) hroom hfit,⟨rfl,rfl,rfl,by simp,fun k _ hk=>setRow_other w b k _ (fun e=>hk (by rw [e]))⟩,?_,fun b hb=>.inl hb⟩
   refine ownK_mk (setRow_heap w b arr _ _ _ hh) (by simp) ?_ (by simpa using hroom) h63 fun k v hk=>?_
   ·simp only [List.size_toArray,List.length_append,List.length_take,List.length_drop,Array.length_toList,hlv,hzs]
    omega
   ·rw [cellsV_app,List.getElem?_append] at hk
    rw [List.getElem?_toArray,List.append_assoc,List.getElem?_append,hzs]
    have htl:(arr.toList.take (rows.length*2)).length=rows.length*2:=by
     have e0:arr.toList.length=arr.size:=Array.length_toList
     rw [List.length_take,e0,hs]
     omega
    rw [htl]
    rw [hrl] at hk
    split at hk
    ·rename_i hlt
     rw [if_pos hlt,List.getElem?_take,if_pos hlt,Array.getElem?_toList]
     exact hc k v (by exact hk)
    ·rename_i hge
     rw [if_neg hge,List.getElem?_append_left (List.getElem?_eq_some_iff.1 hk).1]
     exact hk
  ·obtain ⟨_,q2,q3⟩:=hnew c
   refine ⟨_,_,some w.heap.size,fun ty=>?_,q2,q3,fun b hb=>.inr (by injection hb with hb; omega)⟩
   exact run_append_grow (P:=Tryz.prog) w 38 ty 148 i0 H.zc Tryz.underlying38 hi0 hz0 ⟨b,0,none⟩ rows.length c (cellsV rows) (by rw [cellsV_len,hzs]) (fun j v hj=>by rw [Addr.add_lit,Nat.zero_add,cell_at hh]; exact hc j v hj) ⟨vb,voff,none⟩ 1 vc (cellsV [r]) hl1 hnews (by omega) (by omega) (by rw [hzb]; exact growslice_fits (by omega) (by omega))
def insRows (rows:List (List D)) (i:Nat) (r:List D):List (List D):=rows.take i++r::rows.drop i
theorem cellsV_ins (rows:List (List D)) (i:Nat) (r:List D) (hi:i≤rows.length) {k:Nat} {v:Value} (hk:(cellsV (insRows rows i r))[k]?=some v) :
  (k<i*2∧(cellsV rows)[k]?=some v)∨(i*2≤k∧k<(i+1)*2∧(cellsV [r])[k - i*2]?=some v)∨((i+1)*2≤k∧((cellsV rows).drop (i*2))[k - (i+1)*2]?=some v):=by
 have htl:((cellsV rows).take (i*2)).length=i*2:=by rw [List.length_take,cellsV_len]; omega
 unfold insRows at hk
 rw [cellsV_app,cellsV_take,show r::rows.drop i = [r]++rows.drop i from rfl,cellsV_app,cellsV_drop,List.getElem?_append,htl] at hk
 split at hk
 ·rename_i hlt
  rw [List.getElem?_take,if_pos hlt] at hk
  exact .inl ⟨hlt,hk⟩
 ·rename_i hge
  rw [List.getElem?_append] at hk
  split at hk
  ·rename_i hlt
   have hlt:k - i*2<2:=hlt
   exact .inr (.inl ⟨by omega,by omega,hk⟩)
  ·rename_i hge2
   have hge2:¬ k - i*2<2:=hge2
   refine .inr (.inr ⟨by omega,?_⟩)
   rw [show k - (i+1)*2=k - i*2 - (cellsV [r]).length from by show _=_ - 2; omega]
   exact hk
def i_insCE:Ent:=(165,e3 (sd (.sl 148)) ri (sd (.sl 148)) fun p q r=>(⟨.tup [.agg [.kb true]],[.l (insRows (gd p 0).rows (gd q 0).int.toNat ((gd r 0).rows.getD 0 []))]⟩,leI ((gd p 0).rows.length:Int) 1000000&&leI 0 (gd q 0).int&&leI (gd q 0).int ((gd p 0).rows.length:Int)&&((gd r 0).rows.length==1)))
theorem i_insC_ok:EntOk Tryz.prog i_insCE:=e3_ok fun p q r h=>by
 have h:(leI ((gd p 0).rows.length:Int) 1000000&&leI 0 (gd q 0).int&&leI (gd q 0).int ((gd p 0).rows.length:Int)&&((gd r 0).rows.length==1))=true:=h
 simp only [Bool.and_eq_true,leI,decide_eq_true_eq,beq_iff_eq] at h
 obtain ⟨⟨⟨h1,hq0⟩,hq1⟩,h3⟩:=h
 refine SoundFn.ofK rfl ⟨enters Tryz.func165 (by kernel_rfl) (by kernel_rfl),fun e x rest row he hrow hflat w prot u B vs hO hB hfr hargs hko=>?_⟩
 injection he with he hre
 injection he with he hp
 injection he with he
 injection he with he
 injection he with he
 injection he with he
 subst he hp hre
 rw [row_cell] at hrow
 injection hrow with hrow
 subst hrow
 obtain ⟨uv,rfl,hv⟩:=args_is (hargs w (Changed.refl w B))
 have h1:(x.rows.length:Int)≤1000000:=h1
 have hq1:(gd q 0).int≤(x.rows.length:Int):=hq1
 obtain ⟨r0,hr0⟩:∃ r0,(gd r 0).rows = [r0]:=List.length_eq_one_iff.1 h3
 obtain ⟨VA,vc,rfl,_,hvc63,hvp,hvr⟩:=vd_cells hv
 rw [hr0] at hvp hvr
 obtain ⟨vb,vo,rfl⟩:=hvp (by simp)
 have hvr:=hvr vb vo rfl
 obtain ⟨i,hi⟩:∃ i:Nat,(gd q 0).int=i:=⟨(gd q 0).int.toNat,by omega⟩
 have hout:(gd [D.l (insRows x.rows (gd q 0).int.toNat ((gd r 0).rows.getD 0 []))] 0).rows=insRows x.rows i r0:=by rw [hi,hr0]; rfl
 have hko:=hko rfl 1 _ _ _ rfl (by rw [hr0]; simp)
 obtain ⟨vb',varr,vE,hvb,hvh⟩:=hko
 injection hvb with hvb
 injection hvb with e1 e2 _
 subst e1 e2
 show Calls _ _ _ w fun ex w'=>∃ v' B',ex=.returned v'∧Changed w w' B∧OwnK w' _ _ (gd [D.l (insRows x.rows (gd q 0).int.toNat ((gd r 0).rows.getD 0 []))] 0).rows v' B'∧_
 rw [hout,hr0,hi]
 have hvs:∀ (k:Nat) v,(cellsV [r0])[k]?=some v→w.cell? ⟨vb,0+k,none⟩=some v:=fun k v hk=>(hvr k v hk).1
 have hpv:0<prot vb:=Nat.lt_of_le_of_lt (Nat.zero_le _) (hvr 0 _ rfl).2
 show Calls _ _ #[u,.int .i64 (i:Int),.slice (some ⟨vb,0,none⟩) 1 vc] w _
 by_cases hend:i=x.rows.length
 ·have hins:insRows x.rows i r0=x.rows ++ [r0]:=by unfold insRows; rw [hend]; simp
  rw [hins]
  have hform:∃ base c,u=.slice base x.rows.length c∧x.rows.length≤c∧c≤9223372036854775807∧(base=none→c=0):=by
   rcases ownK_get hO with ⟨_,h0,A,rfl⟩ | ⟨b,cap,arr,rfl,rfl,hle,h63,_⟩
   ·exact ⟨A,0,by rw [h0]; rfl,by rw [h0]; simp,by omega,fun _=>rfl⟩
   ·exact ⟨_,cap,rfl,hle,h63,fun h=>by cases h⟩
  obtain ⟨base,c,rfl,hle,h63,hbn⟩:=hform
  obtain ⟨v',w1,B',k1,k2,k3,k4⟩:=app_one hO vb 0 vc (by omega) hvs
  rw [hend]
  refine (H.ins_end base x.rows.length c vb 0 vc w w1 v' hle h63 hbn k1).mono ?_
  rintro ex w' ⟨rfl,rfl⟩
  exact ⟨_,B',rfl,k2,k3,k4⟩
 ·have hlt:i<x.rows.length:=by omega
  rcases ownK_get hO with ⟨_,h0,_⟩ | ⟨b,cap,arr,rfl,rfl,hle,h63,hh,hs,hc⟩
  ·rw [h0] at hlt; simp at hlt
  ·have hne:vb≠b:=by
    rintro rfl
    have:=hB vb rfl
    omega
   obtain ⟨n,hn⟩:∃ n,n=x.rows.length:=⟨_,rfl⟩
   rw [← hn] at hle hlt ⊢
   have hcl:(cellsV x.rows).length=n*2:=by rw [cellsV_len,hn]
   have hcs:∀ (j:Nat) v,(cellsV x.rows)[j]?=some v→w.cell? ⟨b,0+j,none⟩=some v:=fun j v hj=>by rw [Nat.zero_add,cell_at hh]; exact hc j v hj
   have hil:(insRows x.rows i r0).length=n+1:=by simp [insRows]; omega
   have hdl:((cellsV x.rows).drop (i*2)).length=(n - i)*2:=by rw [List.length_drop,hcl]; omega
   have hvl:(cellsV [r0]).length=2:=rfl
   by_cases hroom:n+1≤cap
   ·have:=H.ins_shift b 0 n cap i (i+1) vb 0 vc (cellsV x.rows) (cellsV [r0]) w rfl hlt hroom h63 hne hcl rfl hcs
     (fun j hj=>by rw [Nat.zero_add,cell_at hh,Array.getElem?_eq_getElem (by omega)]; rfl) (fun j _=>unfrozen hh _) hvs (cellsV_one _) (cellsV_one _) vE 148 varr.size arr.size (by simp [World.shape?,hvh]) (by simp [World.shape?,hh]) (by omega) (unfrozen hvh _) (unfrozen hvh _)
    refine this.mono ?_
    rintro ex w' ⟨rfl,rfl⟩
    obtain ⟨arr1,a1,a2,a3,a4⟩:=setCells_heap b 148 (0,0) ((cellsV x.rows).drop (i*2)) (0+(i+1)*2) w.drew arr hh (by rw [hdl,hs]; omega)
    obtain ⟨arr2,b1,b2,b3,b4⟩:=setCells_heap b 148 (0,0) (cellsV [r0]) (0+i*2) _ arr1 a1 (by rw [hvl,a2,hs]; omega)
    obtain ⟨c1,c2,c3,c4,c5⟩:=setCells_else b ((cellsV x.rows).drop (i*2)) (0+(i+1)*2) w.drew
    obtain ⟨d1,d2,d3,d4,d5⟩:=setCells_else b (cellsV [r0]) (0+i*2) (w.drew.setCells b (0+(i+1)*2) ((cellsV x.rows).drop (i*2)))
    refine ⟨_,some b,rfl,⟨d1.trans c1,d2.trans c2,d3.trans c3,Nat.le_of_eq (d4.trans c4).symm,fun k _ hk=>(d5 k (fun e=>hk (by rw [e]))).trans (c5 k (fun e=>hk (by rw [e])))⟩,?_,fun b hb=>.inl hb⟩
    refine ownK_mk b1 hil.symm (by rw [b2,a2,hs]) (by omega) h63 fun k v hk=>?_
    rcases cellsV_ins x.rows i r0 (by omega) hk with ⟨q1,q2⟩ | ⟨q1,q2,q3⟩ | ⟨q1,q2⟩
    ·rw [b3 k (.inl (by omega)),a3 k (.inl (by omega))]
     exact hc k v q2
    ·have:=b4 _ v q3
     rwa [show 0+i*2+(k - i*2)=k from by omega] at this
    ·rw [b3 k (.inr (by rw [hvl]; omega))]
     have:=a4 _ v q2
     rwa [show 0+(i+1)*2+(k - (i+1)*2)=k from by omega] at this
   ·obtain rfl:cap=n:=by omega
    have:=H.ins_grow b 0 cap i (i+1) vb 0 vc (cellsV x.rows) (cellsV [r0]) w rfl hlt (by omega) hcl rfl hcs hvs (cellsV_one _) (cellsV_one _)
    refine this.mono ?_
    rintro ex w' ⟨rfl,rfl⟩
    have hge:=grownCap_ge w (cap+1) cap 148
    have hcm:=grownCap_le_maxLen w (cap+1) cap 148 (by unfold maxLen; omega)
    obtain ⟨G,hG⟩:∃ G,G=grownCap w (cap+1) cap 148:=⟨_,rfl⟩
    rw [← hG] at hge hcm ⊢
    have hzz:H.zc.cells.size=2:=rfl
    obtain ⟨ROW,hROW⟩:∃ ROW:Array Value,ROW=((cellsV x.rows).take (i*2)).toArray++Builtin.zeroCells H.zc.cells (cap+1 - i)++Builtin.zeroCells H.zc.cells (G - (cap+1)):=⟨_,rfl⟩
    have htl:((cellsV x.rows).take (i*2)).length=i*2:=by rw [List.length_take,hcl]; omega
    have hRs:ROW.size=G*2:=by
     rw [hROW]
     simp only [Array.size_append,List.size_toArray,htl,size_zeroCells,hzz]
     omega
    have hRt:∀ (k:Nat) v,k<i*2→(cellsV x.rows)[k]?=some v→ROW[k]?=some v:=fun k v hk hv=>by
     rw [hROW,Array.append_assoc,Array.getElem?_append_left (by simp only [List.size_toArray,htl]; exact hk)]
     simp [List.getElem?_take,hk,hv]
    rw [← hROW]
    have hW:((w.alloc (.cells ROW 148)).drew).heap[w.heap.size]?=some (.cells ROW 148 (0,0)):=by letI:Low:=noLow; exact heap_new w _
    obtain ⟨arr1,a1,a2,a3,a4⟩:=setCells_heap w.heap.size 148 (0,0) (cellsV [r0]) (i*2) _ ROW hW (by rw [hvl,hRs]; omega)
    obtain ⟨arr2,b1,b2,b3,b4⟩:=setCells_heap w.heap.size 148 (0,0) ((cellsV x.rows).drop (i*2)) ((i+1)*2) ((((w.alloc (.cells ROW 148)).drew).setCells w.heap.size (i*2) (cellsV [r0])).drew) arr1 a1 (by rw [hdl,a2,hRs]; omega)
    obtain ⟨c1,c2,c3,c4,c5⟩:=setCells_else w.heap.size (cellsV [r0]) (i*2) ((w.alloc (.cells ROW 148)).drew)
    obtain ⟨d1,d2,d3,d4,d5⟩:=setCells_else w.heap.size ((cellsV x.rows).drop (i*2)) ((i+1)*2) ((((w.alloc (.cells ROW 148)).drew).setCells w.heap.size (i*2) (cellsV [r0])).drew)
    refine ⟨_,some w.heap.size,rfl,⟨d1.trans c1,d2.trans c2,d3.trans c3,?_,fun k hk _=>(d5 k (by omega)).trans ((c5 k (by omega)).trans (Below.heap_alloc w _ k hk))⟩,?_,fun b hb=>.inr (by injection hb with hb; omega)⟩
    ·refine Nat.le_trans ?_ (Nat.le_of_eq (d4.trans c4).symm)
     show w.heap.size≤(w.heap.push _).size
     rw [Array.size_push]
     omega
    ·refine ownK_mk b1 hil.symm (by rw [b2,a2,hRs]) (by omega) (by unfold maxLen at hcm; omega) fun k v hk=>?_
     rcases cellsV_ins x.rows i r0 (by omega) hk with ⟨q1,q2⟩ | ⟨q1,q2,q3⟩ | ⟨q1,q2⟩
     ·rw [b3 k (.inl (by omega)),a3 k (.inl (by omega))]
      exact hRt k v q1 q2
     ·rw [b3 k (.inl (by omega))]
      have:=a4 _ v q3
      rwa [show i*2+(k - i*2)=k from by omega] at this
     ·have:=b4 _ v q2
      rwa [show (i+1)*2+(k - (i+1)*2)=k from by omega] at this
end Go.Proofs.YthbbbhpjkgpdcaaGreat
namespace Go.Proofs.YthbbbhpjkgpdcaaGreat
set_option maxRecDepth 100000
set_option maxHeartbeats 4000000
open Go.RowKit Go.Lib
def cellsW (k:Nat):List (List D)→List Value
 | [] => []
 | r::rs=>(List.range k).map (fun j=>.int .i64 (gd r j).int)++cellsW k rs
theorem cellsW_len (k:Nat):∀ rows,(cellsW k rows).length=rows.length*k
 | []=>by simp [cellsW]
 | r::rs=>by
  simp only [cellsW,List.length_append,List.length_map,List.length_range,cellsW_len k rs,List.length_cons,Nat.add_mul]
  omega
theorem cellsW_get (k:Nat):∀ (rows:List (List D)) (i j:Nat),i<rows.length→j<k→(cellsW k rows)[i*k+j]?=some (.int .i64 (gd (rows.getD i []) j).int)
 | [],i,j,h,_=>by simp at h
 | r::rs,0,j,_,hj=>by
  rw [cellsW,Nat.zero_mul,Nat.zero_add,List.getElem?_append_left (by simpa using hj)]
  simp [hj]
 | r::rs,i+1,j,h,hj=>by
  have:=cellsW_get k rs i j (by simpa using h) hj
  rw [cellsW,List.getElem?_append_right (by simp only [List.length_map,List.length_range,Nat.add_mul]; omega)]
  simp only [List.length_map,List.length_range]
  rw [show (i+1)*k+j - k=i*k+j from by rw [Nat.add_mul]; omega,this]
  rfl
theorem cellsW_all {k:Nat} {F:Nat→Value→Prop} {rows:List (List D)} (h:∀ i j,i<rows.length→j<k→F (i*k+j) (.int .i64 (gd (rows.getD i []) j).int)) {m:Nat} {v:Value} (hm:(cellsW k rows)[m]?=some v):F m v:=by
 have hlt:=(List.getElem?_eq_some_iff.1 hm).1
 rw [cellsW_len] at hlt
 have hk:0<k:=by
  rcases Nat.eq_zero_or_pos k with e | e
  ·subst e; simp at hlt
  ·exact e
 have hi:m / k<rows.length:=by rw [Nat.div_lt_iff_lt_mul hk]; exact hlt
 have hj:=Nat.mod_lt m hk
 have e:m / k*k+m % k=m:=by rw [Nat.mul_comm]; exact Nat.div_add_mod m k
 have h1:=cellsW_get k rows (m / k) (m % k) hi hj
 have h2:=h (m / k) (m % k) hi hj
 rw [e] at h1 h2
 rw [hm] at h1
 injection h1 with h1
 rw [h1]; exact h2
theorem cellsW_one (k:Nat) (rows:List (List D)):∀ v∈cellsW k rows,v.oneCell'=true:=fun v hv=>by
 obtain ⟨m,hm⟩:=List.getElem?_of_mem hv
 exact cellsW_all (F:=fun _ v=>v.oneCell'=true) (fun i j _ _=>rfl) hm
theorem vd_cellsW {P:Program} {w:World} {prot:Nat→Nat} {x:D} {v:Value} {e:TypeId} {k:Nat} (hrow:rowOf P e=some (List.replicate k (.int .i64))) (hk:0<k) (h:VD P w prot (.sl e) x v):∃ A c,v=.slice A x.rows.length c∧x.rows.length≤c∧c≤9223372036854775807 ∧
  (0<x.rows.length→∃ b o,A=some ⟨b,o,none⟩)∧∀ b o,A=some ⟨b,o,none⟩→∀ m v,(cellsW k x.rows)[m]?=some v→w.cell? ⟨b,o+m,none⟩=some v∧o+m<prot b:=by
 cases h with
 | sl e d A c row u hr h1 h2 h3 h4 =>
  rw [hrow] at hr
  injection hr with hr
  subst hr
  simp only [List.length_replicate] at h3 h4
  refine ⟨A,c,rfl,h1,h2,fun h0=>?_,fun b o hA m v hm=>?_⟩
  ·obtain ⟨b,o,hA,_⟩:=h3 0 0 h0 hk
   exact ⟨b,o,hA⟩
  ·subst hA
   refine cellsW_all (F:=fun m v=>w.cell? ⟨b,o+m,none⟩=some v∧o+m<prot b) (fun i j hi hj=>?_) hm
   obtain ⟨b',o',hA,hc,hp⟩:=h3 i j hi hj
   injection hA with hA
   injection hA with e1 e2 _
   subst e1; subst e2
   have hv:=h4 i j (.int .i64) hi (by simp [hj])
   generalize u i j=z at *
   cases hv
   exact ⟨hc,hp⟩
theorem res_cellsW {P:Program} {prot:Nat→Nat} {w w':World} {x:D} {v:Value} {e:TypeId} {k:Nat} (hrow:rowOf P e=some (List.replicate k (.int .i64))) (hfr:∀ b,w.heap.size≤b→prot b=0) (hb:Below w.heap.size w w') (ho:w'.ownsRow w.heap.size e k v x.rows.length (cellsW k x.rows)) :
  ∃ g',Res P prot w w' ⟨.one (.c (.own (0,0) true e)),[x]⟩ v g':=by
 obtain ⟨hl,⟨rfl,h0⟩ | ⟨blk,cap,cur,rfl,hblk,hh,hcap,hmax,hsz,htk⟩⟩:=ho
 ·exact ⟨g0 0 prot,hb,⟨_,hrow,.inl ⟨List.eq_nil_of_length_eq_zero h0,rfl,none,rfl⟩⟩,fun _ _=>rfl,fun b hb'=>⟨hfr b (Nat.le_trans hb.size hb'),rfl⟩⟩
 ·refine ⟨⟨prot,fun b=>if b=blk then some (.inr (0,0)) else none,fun _=>0,fun _=>blk,fun _=>x.rows.length,fun _=>k,fun _=>e,fun _ => [],fun _=>0,fun _=>False⟩,hb,⟨_,hrow,.inr ⟨cap,cur,e,rfl,hcap,⟨by unfold maxLen at hmax; omega,rfl,rfl⟩,hblk,if_pos rfl,hh,by simpa using hsz,rfl,by simp,?_,?_⟩⟩,fun _ _=>rfl,fun b hb'=>⟨hfr b (Nat.le_trans hb.size hb'),?_⟩⟩
  ·show prot blk=0
   exact hfr blk hblk
  ·intro i j s hi hs
   have hi:i<x.rows.length:=hi
   obtain ⟨hj,rfl⟩:j<k∧S.int .i64=s:=by
    obtain ⟨hj,h2⟩:=List.getElem?_eq_some_iff.1 hs
    exact ⟨by simpa using hj,by simpa using h2⟩
   have q:=cellsW_get k x.rows i j hi hj
   have hlt:i*k+j<x.rows.length*k:=by
    have:=(List.getElem?_eq_some_iff.1 q).1
    rw [cellsW_len] at this
    exact this
   rw [← htk,List.getElem?_take,if_pos hlt] at q
   exact ⟨.int .i64 (gd (x.rows.getD i []) j).int,by simpa using q,.of_vd (.int .i64 _) (.inr rfl)⟩
  ·have:=lt_of_heap hh
   exact if_neg (by omega)
end Go.Proofs.YthbbbhpjkgpdcaaGreat
namespace Go.Proofs.YthbbbhpjkgpdcaaGreat
set_option maxRecDepth 100000
set_option maxHeartbeats 4000000
open Go.RowKit Go.Lib
theorem rowW_Seat:rowOf Tryz.prog 69=some (List.replicate 3 (.int .i64)):=by kernel_rfl
abbrev zcW_Seat:Value:=(.agg #[.int .i64 0,.int .i64 0,.int .i64 0])
theorem infoW_Seat:(Tryz.prog.info? 69).map (fun i=>(i.zero,i.size,i.bytes))=some (some zcW_Seat,3,24):=by kernel_rfl
theorem cloneW_Seat (a:Addr) (n c:Nat) (news:List Value) (w:World) (hl:news.length=n*3) (hn:n≤2000000) (hc:∀ j u,news[j]?=some u→w.cell? (a.add j)=some u) (h1:∀ u∈news,u.oneCell'=true) :
  Calls Tryz.prog 154 #[.slice (some a) n c] w fun e w'=>∃ v',e=.returned v'∧w'.ownsRow w.heap.size 69 3 v' n news∧Below w.heap.size w w':=by
 obtain ⟨i0,hi0,hz0,hzs,hzb⟩:=info_parts infoW_Seat
 have mixed:Tryz.prog.follows .mixedOrders=true:=by kernel_rfl
 have q22:∀ (w:World) (a:Option Addr) (n c n' c':Nat),(binOp .eql 39 (.slice a n c) (.slice none n' c')).run Tryz.prog w=.ok (.bool a.isNone) w:=fun w a n c n' c'=>Lib.run_eql_slice_nil w _ _ a n c n' c' Tryz.underlying39
 have A:Aside (∀ j u,news[j]?=some u→w.cell? (a.add j)=some u):=hc
 clear hc
 go_enter Tryz.func154,Tryz.ntmps154
 go_wp2_with (at_builtin; refine wpList_append_own _ rfl _ _ 39 rfl w.heap.size 69 i0 zcW_Seat 3 24 Tryz.underlying39 hi0 hz0 hzs hzb rfl (by decide) _ _ _ rfl (World.ownsRow_made w #[] 0 (Nat.le_refl _) (Nat.zero_le _) (by simp)) a n c news rfl ?qc1 ?qc2 ?qc3 ?qc4 ?qc5 ?qc6 ?_)
 case qc1=>exact hl
 case qc2 =>
  intro j u hj
  exact Lib.cell?_alloc_some _ (A.out j u hj)
 case qc3=>exact h1
 case qc4=>rw [Nat.zero_add]; unfold maxLen; omega
 case qc5=>rw [Nat.zero_add]; omega
 case qc6=>simp
 intro v' w1 hown hgrow hnil
 go_wp2
 go_ret
 refine ⟨v',rfl,by simpa using hown,?_⟩
 exact ((Below.refl _ w).alloc (Nat.le_refl _) _).grown hgrow (by simp) (by intro k hk; simp [Value.ownBlock] at hk; omega)
theorem cloneWn_Seat (n c:Nat) (w:World) :
  Calls Tryz.prog 154 #[.slice none n c] w fun e w'=>e=.returned (.slice none 0 0)∧w'=w:=by
 have mixed:Tryz.prog.follows .mixedOrders=true:=by kernel_rfl
 have q22:∀ (w:World) (a:Option Addr) (n c n' c':Nat),(binOp .eql 39 (.slice a n c) (.slice none n' c')).run Tryz.prog w=.ok (.bool a.isNone) w:=fun w a n c n' c'=>Lib.run_eql_slice_nil w _ _ a n c n' c' Tryz.underlying39
 go_enter Tryz.func154,Tryz.ntmps154
 go_wp2
 go_ret
 exact ⟨rfl,rfl⟩
def i_clonSeatE:Ent:=(154,e1 (sd (.sl 69)) fun p=>(⟨.one (.c (.own (0,0) true 69)),[.l (gd p 0).rows]⟩,leI ((gd p 0).rows.length:Int) 2000000))
theorem i_clonSeat_ok:EntOk Tryz.prog i_clonSeatE:=e1_ok fun p h=>by
 have h:leI ((gd p 0).rows.length:Int) 2000000=true:=h
 simp only [leI,decide_eq_true_eq] at h
 refine SoundFn.of rfl ⟨enters Tryz.func154 (by kernel_rfl) (by kernel_rfl),fun w prot vs hargs hfr=>?_⟩
 obtain ⟨u,hu,hv⟩:=hargs.2 0 _ rfl
 have hvs:vs = #[u]:=by
  have hs:vs.size=1:=hargs.1
  refine Array.ext (by simpa using hs) fun i h1 h2=>?_
  have:i=0:=by omega
  subst this
  rw [Array.getElem?_eq_getElem h1] at hu
  injection hu
 subst hvs
 have hv:VD Tryz.prog w prot (.sl 69) (gd p 0) u:=hv
 generalize gd p 0=x at *
 obtain ⟨A,c,rfl,h1,h2,h3,h4⟩:=vd_cellsW rowW_Seat (by decide) hv
 cases A with
 | none =>
  have h0:x.rows.length=0:=by
   rcases Nat.eq_zero_or_pos x.rows.length with h' | h'
   ·exact h'
   ·obtain ⟨b,o,hA⟩:=h3 h'
    cases hA
  have hx0:x.rows = []:=List.eq_nil_of_length_eq_zero h0
  refine (cloneWn_Seat x.rows.length c w).mono ?_
  rintro ex w' ⟨rfl,rfl⟩
  obtain ⟨g',hg⟩:=res_cellsW (x:=x) (prot:=prot) (w:=w') (w':=w') rowW_Seat hfr (Below.refl _ _) (v:=.slice none 0 0) ⟨cellsW_len _ _,.inl ⟨rfl,h0⟩⟩
  exact ⟨_,g',rfl,hg.below,hg.val,hg.prot,hg.fresh⟩
 | some ad =>
  refine (cloneW_Seat ad x.rows.length c (cellsW 3 x.rows) w (cellsW_len _ _) (by omega) (fun j u hj=>?_) (cellsW_one _ _)).mono ?_
  ·have hpos:0<x.rows.length:=by
    have:=(List.getElem?_eq_some_iff.1 hj).1
    rw [cellsW_len] at this
    omega
   obtain ⟨b,o,hA⟩:=h3 hpos
   injection hA with hA
   subst hA
   rw [Addr.add_lit]
   exact (h4 b o rfl j u hj).1
  ·rintro ex w' ⟨v',rfl,hown,hbel⟩
   obtain ⟨g',hg⟩:=res_cellsW (x:=x) (prot:=prot) rowW_Seat hfr hbel hown
   exact ⟨_,g',rfl,hg.below,hg.val,hg.prot,hg.fresh⟩
theorem rowW_Entry:rowOf Tryz.prog 78=some (List.replicate 5 (.int .i64)):=by kernel_rfl
abbrev zcW_Entry:Value:=(.agg #[.int .i64 0,.int .i64 0,.int .i64 0,.int .i64 0,.int .i64 0])
theorem infoW_Entry:(Tryz.prog.info? 78).map (fun i=>(i.zero,i.size,i.bytes))=some (some zcW_Entry,5,40):=by kernel_rfl
theorem cloneW_Entry (a:Addr) (n c:Nat) (news:List Value) (w:World) (hl:news.length=n*5) (hn:n≤2000000) (hc:∀ j u,news[j]?=some u→w.cell? (a.add j)=some u) (h1:∀ u∈news,u.oneCell'=true) :
  Calls Tryz.prog 137 #[.slice (some a) n c] w fun e w'=>∃ v',e=.returned v'∧w'.ownsRow w.heap.size 78 5 v' n news∧Below w.heap.size w w':=by
 obtain ⟨i0,hi0,hz0,hzs,hzb⟩:=info_parts infoW_Entry
 have mixed:Tryz.prog.follows .mixedOrders=true:=by kernel_rfl
 have q22:∀ (w:World) (a:Option Addr) (n c n' c':Nat),(binOp .eql 42 (.slice a n c) (.slice none n' c')).run Tryz.prog w=.ok (.bool a.isNone) w:=fun w a n c n' c'=>Lib.run_eql_slice_nil w _ _ a n c n' c' Tryz.underlying42
 have A:Aside (∀ j u,news[j]?=some u→w.cell? (a.add j)=some u):=hc
 clear hc
 go_enter Tryz.func137,Tryz.ntmps137
 go_wp2_with (at_builtin; refine wpList_append_own _ rfl _ _ 42 rfl w.heap.size 78 i0 zcW_Entry 5 40 Tryz.underlying42 hi0 hz0 hzs hzb rfl (by decide) _ _ _ rfl (World.ownsRow_made w #[] 0 (Nat.le_refl _) (Nat.zero_le _) (by simp)) a n c news rfl ?qc1 ?qc2 ?qc3 ?qc4 ?qc5 ?qc6 ?_)
 case qc1=>exact hl
 case qc2 =>
  intro j u hj
  exact Lib.cell?_alloc_some _ (A.out j u hj)
 case qc3=>exact h1
 case qc4=>rw [Nat.zero_add]; unfold maxLen; omega
 case qc5=>rw [Nat.zero_add]; omega
 case qc6=>simp
 intro v' w1 hown hgrow hnil
 go_wp2
 go_ret
 refine ⟨v',rfl,by simpa using hown,?_⟩
 exact ((Below.refl _ w).alloc (Nat.le_refl _) _).grown hgrow (by simp) (by intro k hk; simp [Value.ownBlock] at hk; omega)
theorem cloneWn_Entry (n c:Nat) (w:World) :
  Calls Tryz.prog 137 #[.slice none n c] w fun e w'=>e=.returned (.slice none 0 0)∧w'=w:=by
 have mixed:Tryz.prog.follows .mixedOrders=true:=by kernel_rfl
 have q22:∀ (w:World) (a:Option Addr) (n c n' c':Nat),(binOp .eql 42 (.slice a n c) (.slice none n' c')).run Tryz.prog w=.ok (.bool a.isNone) w:=fun w a n c n' c'=>Lib.run_eql_slice_nil w _ _ a n c n' c' Tryz.underlying42
 go_enter Tryz.func137,Tryz.ntmps137
 go_wp2
 go_ret
 exact ⟨rfl,rfl⟩
def i_clonEntryE:Ent:=(137,e1 (sd (.sl 78)) fun p=>(⟨.one (.c (.own (0,0) true 78)),[.l (gd p 0).rows]⟩,leI ((gd p 0).rows.length:Int) 2000000))
theorem i_clonEntry_ok:EntOk Tryz.prog i_clonEntryE:=e1_ok fun p h=>by
 have h:leI ((gd p 0).rows.length:Int) 2000000=true:=h
 simp only [leI,decide_eq_true_eq] at h
 refine SoundFn.of rfl ⟨enters Tryz.func137 (by kernel_rfl) (by kernel_rfl),fun w prot vs hargs hfr=>?_⟩
 obtain ⟨u,hu,hv⟩:=hargs.2 0 _ rfl
 have hvs:vs = #[u]:=by
  have hs:vs.size=1:=hargs.1
  refine Array.ext (by simpa using hs) fun i h1 h2=>?_
  have:i=0:=by omega
  subst this
  rw [Array.getElem?_eq_getElem h1] at hu
  injection hu
 subst hvs
 have hv:VD Tryz.prog w prot (.sl 78) (gd p 0) u:=hv
 generalize gd p 0=x at *
 obtain ⟨A,c,rfl,h1,h2,h3,h4⟩:=vd_cellsW rowW_Entry (by decide) hv
 cases A with
 | none =>
  have h0:x.rows.length=0:=by
   rcases Nat.eq_zero_or_pos x.rows.length with h' | h'
   ·exact h'
   ·obtain ⟨b,o,hA⟩:=h3 h'
    cases hA
  have hx0:x.rows = []:=List.eq_nil_of_length_eq_zero h0
  refine (cloneWn_Entry x.rows.length c w).mono ?_
  rintro ex w' ⟨rfl,rfl⟩
  obtain ⟨g',hg⟩:=res_cellsW (x:=x) (prot:=prot) (w:=w') (w':=w') rowW_Entry hfr (Below.refl _ _) (v:=.slice none 0 0) ⟨cellsW_len _ _,.inl ⟨rfl,h0⟩⟩
  exact ⟨_,g',rfl,hg.below,hg.val,hg.prot,hg.fresh⟩
 | some ad =>
  refine (cloneW_Entry ad x.rows.length c (cellsW 5 x.rows) w (cellsW_len _ _) (by omega) (fun j u hj=>?_) (cellsW_one _ _)).mono ?_
  ·have hpos:0<x.rows.length:=by
    have:=(List.getElem?_eq_some_iff.1 hj).1
    rw [cellsW_len] at this
    omega
   obtain ⟨b,o,hA⟩:=h3 hpos
   injection hA with hA
   subst hA
   rw [Addr.add_lit]
   exact (h4 b o rfl j u hj).1
  ·rintro ex w' ⟨v',rfl,hown,hbel⟩
   obtain ⟨g',hg⟩:=res_cellsW (x:=x) (prot:=prot) rowW_Entry hfr hbel hown
   exact ⟨_,g',rfl,hg.below,hg.val,hg.prot,hg.fresh⟩
end Go.Proofs.YthbbbhpjkgpdcaaGreat
namespace Go.Proofs.YthbbbhpjkgpdcaaGreat
set_option maxRecDepth 100000
set_option maxHeartbeats 4000000
open Go.RowKit Go.Lib
abbrev rowN3:List S:= [.int .i64,.int .i64,.int .i64]
theorem row_seat:rowOf Tryz.prog 69=some rowN3:=by kernel_rfl
theorem cellsW_app (k:Nat):∀ a b,cellsW k (a++b)=cellsW k a++cellsW k b
 | [],b=>rfl
 | r::a,b=>by rw [List.cons_append,cellsW,cellsW,cellsW_app k a b,List.append_assoc]
theorem cellsW_take (k:Nat):∀ (rows:List (List D)) (i:Nat),cellsW k (rows.take i)=(cellsW k rows).take (i*k)
 | [],i=>by simp [cellsW]
 | r::rs,0=>by simp [cellsW]
 | r::rs,i+1=>by
  have hl:((List.range k).map fun j=>Value.int .i64 (gd r j).int).length=k:=by simp
  rw [List.take_succ_cons,cellsW,cellsW,cellsW_take k rs i,List.take_append,hl,List.take_of_length_le (l:=(List.range k).map fun j=>Value.int .i64 (gd r j).int) (i:=(i+1)*k) (by rw [hl,Nat.add_mul]; omega)]
  rw [show (i+1)*k - k=i*k from by rw [Nat.add_mul]; omega]
theorem cellsW_drop (k:Nat):∀ (rows:List (List D)) (i:Nat),cellsW k (rows.drop i)=(cellsW k rows).drop (i*k)
 | [],i=>by simp [cellsW]
 | r::rs,0=>by simp [cellsW]
 | r::rs,i+1=>by
  have hl:((List.range k).map fun j=>Value.int .i64 (gd r j).int).length=k:=by simp
  rw [List.drop_succ_cons,cellsW,cellsW_drop k rs i,List.drop_append,hl,show ((List.range k).map fun j=>Value.int .i64 (gd r j).int).drop ((i+1)*k) = [] from List.drop_eq_nil_of_le (by rw [hl,Nat.add_mul]; omega),List.nil_append]
  rw [show (i+1)*k - k=i*k from by rw [Nat.add_mul]; omega]
theorem own3_mk {w:World} {rows:List (List D)} {b cap n:Nat} {arr:Array Value} (hh:w.heap[b]?=some (.cells arr 69 (0,0))) (hn:n=rows.length) (hs:arr.size=cap*3) (hle:rows.length≤cap) (h63:cap≤9223372036854775807)
  (hc:∀ (k:Nat) v,(cellsW 3 rows)[k]?=some v→arr[k]?=some v):OwnK w 69 rowN3 rows (.slice (some ⟨b,0,none⟩) n cap) (some b):=by
 subst hn
 refine .inr ⟨b,cap,arr,rfl,rfl,hle,h63,hh,hs,fun i j s hi hs=>?_⟩
 match j,hs with
 | 0,hs=>injection hs with hs; subst hs; exact ⟨_,hc _ _ (cellsW_get 3 rows i 0 hi (by decide)),rfl⟩
 | 1,hs=>injection hs with hs; subst hs; exact ⟨_,hc _ _ (cellsW_get 3 rows i 1 hi (by decide)),rfl⟩
 | 2,hs=>injection hs with hs; subst hs; exact ⟨_,hc _ _ (cellsW_get 3 rows i 2 hi (by decide)),rfl⟩
theorem own3_get {w:World} {rows:List (List D)} {u:Value} {B:Option Nat} (h:OwnK w 69 rowN3 rows u B):(B=none∧rows = []∧∃ A,u=.slice A 0 0) ∨
  ∃ (b cap:Nat) (arr:Array Value),B=some b∧u=.slice (some ⟨b,0,none⟩) rows.length cap∧rows.length≤cap∧cap≤9223372036854775807∧w.heap[b]?=some (.cells arr 69 (0,0))∧arr.size=cap*3 ∧
   ∀ (k:Nat) v,(cellsW 3 rows)[k]?=some v→arr[k]?=some v:=by
 rcases h with h | ⟨b,cap,arr,h1,h2,h3,h4,h5,h6,h7⟩
 ·exact .inl h
 ·refine .inr ⟨b,cap,arr,h1,h2,h3,h4,h5,h6,fun k v hk=>cellsW_all (k:=3) (F:=fun k v=>arr[k]?=some v) (fun i j hi hj=>?_) hk⟩
  obtain ⟨u0,k1,k2⟩:=h7 i j (.int .i64) hi (by match j,hj with | 0,_=>rfl | 1,_=>rfl | 2,_=>rfl)
  rw [k2] at k1
  exact k1
theorem vd_seats {w:World} {prot:Nat→Nat} {x:D} {v:Value} (h:VD Tryz.prog w prot (.sl 69) x v):∃ A c,v=.slice A x.rows.length c∧x.rows.length≤c∧c≤9223372036854775807 ∧
  (0<x.rows.length→∃ b o,A=some ⟨b,o,none⟩)∧∀ b o,A=some ⟨b,o,none⟩→∀ k v,(cellsW 3 x.rows)[k]?=some v→w.cell? ⟨b,o+k,none⟩=some v∧o+k<prot b:=by
 cases h with
 | sl e d A c row u hr h1 h2 h3 h4 =>
  rw [row_seat] at hr
  injection hr with hr
  subst hr
  refine ⟨A,c,rfl,h1,h2,fun h0=>?_,fun b o hA k v hk=>?_⟩
  ·obtain ⟨b,o,hA,_⟩:=h3 0 0 h0 (by decide)
   exact ⟨b,o,hA⟩
  ·subst hA
   refine cellsW_all (k:=3) (F:=fun k v=>w.cell? ⟨b,o+k,none⟩=some v∧o+k<prot b) (fun i j hi hj=>?_) hk
   obtain ⟨b',o',hA,hc,hp⟩:=h3 i j hi hj
   injection hA with hA
   injection hA with e1 e2 _
   subst e1; subst e2
   have hv:=h4 i j (.int .i64) hi (by match j,hj with | 0,_=>rfl | 1,_=>rfl | 2,_=>rfl)
   generalize u i j=z at *
   cases hv
   exact ⟨hc,hp⟩
theorem args_isS {prot:Nat→Nat} {w:World} {q r:List D} {vs:Array Value} (h:ArgsV Tryz.prog prot w [⟨ri,q⟩,⟨sd (.sl 69),r⟩] vs):∃ u,vs = #[.int .i64 (gd q 0).int,u]∧VD Tryz.prog w prot (.sl 69) (gd r 0) u:=by
 obtain ⟨u,hu,hv⟩:=h.2 1 _ rfl
 refine ⟨u,?_,hv⟩
 refine args_at h [.int .i64 (gd q 0).int,u] rfl fun j t u' h1 h2=>?_
 match j,h1 with
 | 0,h1 =>
  injection h1 with h1; subst h1
  obtain ⟨u'',k1,k2⟩:=h.2 0 _ rfl
  rw [h2] at k1; injection k1 with k1; subst k1
  have:=vd_int (k:=.i64) (show VD Tryz.prog w prot (.int .i64) (gd q 0) u' from k2)
  rw [this]; rfl
 | 1,h1 =>
  rw [h2] at hu; injection hu with hu; subst hu
  rfl
theorem app_oneS {w:World} {rows:List (List D)} {r:List D} {base:Option Addr} {n c:Nat} {B:Option Nat} (hO:OwnK w 69 rowN3 rows (.slice base n c) B) (vb voff vc:Nat) (hn:rows.length≤1000000)
  (hv:∀ (k:Nat) v,(cellsW 3 [r])[k]?=some v→w.cell? ⟨vb,voff+k,none⟩=some v) :
  ∃ v' w1 B',(∀ ty,(Builtin.append_ #[39,39] ty #[.slice base n c,.slice (some ⟨vb,voff,none⟩) 1 vc]).run Tryz.prog w=.ok v' w1)∧Changed w w1 B∧OwnK w1 69 rowN3 (rows ++ [r]) v' B'∧∀ b,B'=some b→B=some b∨w.heap.size≤b:=by
 obtain ⟨i0,hi0,hz0,hzs,hzb⟩:=info_parts HS.info_seat
 have hl1:(cellsW 3 [r]).length=1*i0.size:=by rw [hzs]; rfl
 have hnews:∀ (j:Nat) v,(cellsW 3 [r])[j]?=some v→w.cell? ((⟨vb,voff,none⟩:Addr).add j)=some v:=fun j v hj=>by rw [Addr.add_lit]; exact hv j v hj
 have hzz:HS.zs.cells.size=3:=rfl
 -- a new block
 have hnew:∀ (old:Nat),(w.drew.alloc (.cells ((cellsW 3 rows).toArray++(cellsW 3 [r]).toArray++Builtin.zeroCells HS.zs.cells (grownCap w (rows.length+1) old 69 - (rows.length+1))) 69)).heap.size=w.heap.size+1 ∧
   Changed w (w.drew.alloc (.cells ((cellsW 3 rows).toArray++(cellsW 3 [r]).toArray++Builtin.zeroCells HS.zs.cells (grownCap w (rows.length+1) old 69 - (rows.length+1))) 69)) B ∧
   OwnK (w.drew.alloc (.cells ((cellsW 3 rows).toArray++(cellsW 3 [r]).toArray++Builtin.zeroCells HS.zs.cells (grownCap w (rows.length+1) old 69 - (rows.length+1))) 69)) 69 rowN3 (rows ++ [r]) (.slice (some ⟨w.heap.size,0,none⟩) (rows.length+1) (grownCap w (rows.length+1) old 69)) (some w.heap.size):=by
  intro old
  have hge:=grownCap_ge w (rows.length+1) old 69
  have hcm:=grownCap_le_maxLen w (rows.length+1) old 69 (by unfold maxLen; omega)
  refine ⟨by simp [World.alloc],⟨rfl,rfl,rfl,by simp [World.alloc],fun k hk _=>Below.heap_alloc w.drew _ k hk⟩,own3_mk (by letI:Low:=noLow; exact heap_new w.drew _) (by simp) ?_ (by simpa using hge) (by unfold maxLen at hcm; omega) fun k v hk=>?_⟩
  ·simp only [Array.size_append,List.size_toArray,cellsW_len 3,size_zeroCells,hzz,List.length_cons,List.length_nil]
   omega
  ·rw [cellsW_app 3] at hk
   have hkl:=(List.getElem?_eq_some_iff.1 hk).1
   rw [Array.getElem?_append_left (by simpa using hkl)]
   simpa using hk
 have hnot:B=none→rows = []∧n=0∧c=0:=by
  rintro rfl
  rcases hO with ⟨_,h0,A,hA⟩ | ⟨_,_,_,hb,_⟩
  ·injection hA with _ e1 e2; exact ⟨h0,e1,e2⟩
  ·cases hb
 rcases own3_get hO with ⟨rfl,rfl,A,hA⟩ | ⟨b,cap,arr,rfl,hA,hle,h63,hh,hs,hc⟩
 ·injection hA with e0 e1 e2
  subst e0 e1 e2
  obtain ⟨_,q2,q3⟩:=hnew 0
  refine ⟨_,_,some w.heap.size,fun ty=>?_,q2,q3,fun b hb=>.inr (by injection hb with hb; omega)⟩
  cases base with
  | none =>
   have:=run_append_nil (P:=Tryz.prog) w 39 ty 69 i0 HS.zs Tryz.underlying39 hi0 hz0 ⟨vb,voff,none⟩ 1 vc (cellsW 3 [r]) hl1 hnews (by omega) (by omega) (by rw [hzb]; omega)
   rw [this]
   simp [cellsW]
  | some a =>
   have:=run_append_grow (P:=Tryz.prog) w 39 ty 69 i0 HS.zs Tryz.underlying39 hi0 hz0 a 0 0 [] (by simp) (fun j v hj=>by simp at hj) ⟨vb,voff,none⟩ 1 vc (cellsW 3 [r]) hl1 hnews (by omega) (by omega) (by rw [hzb]; exact growslice_fits (by omega) (by omega))
   rw [this]
   rfl
 ·injection hA with e0 e1 e2
  subst e0 e1 e2
  by_cases hroom:rows.length+1≤c
  ·have hfit:rows.length*i0.size+(cellsW 3 [r]).length≤arr.size:=by rw [hzs,hs]; show _+3≤_; omega
   have hlv:(cellsW 3 [r]).length=3:=rfl
   have hrl:(cellsW 3 rows).length=rows.length*3:=cellsW_len 3 rows
   refine ⟨_,_,some b,fun ty=>run_append_room (P:=Tryz.prog) w 39 ty 69 i0 Tryz.underlying39 hi0 b rows.length c arr hh ⟨vb,voff,none⟩ 1 vc (cellsW 3 [r]) hl1 hnews (cellsW_one 3 _) hroom hfit,⟨rfl,rfl,rfl,by simp,fun k _ hk=>setRow_other w b k _ (fun e=>hk (by rw [e]))⟩,?_,fun b hb=>.inl hb⟩
   refine own3_mk (setRow_heap w b arr _ _ _ hh) (by simp) ?_ (by simpa using hroom) h63 fun k v hk=>?_
   ·simp only [List.size_toArray,List.length_append,List.length_take,List.length_drop,Array.length_toList,hlv,hzs]
    omega
   ·rw [cellsW_app 3,List.getElem?_append] at hk
    rw [List.getElem?_toArray,List.append_assoc,List.getElem?_append,hzs]
    have htl:(arr.toList.take (rows.length*3)).length=rows.length*3:=by
     have e0:arr.toList.length=arr.size:=Array.length_toList
     rw [List.length_take,e0,hs]
     omega
    rw [htl]
    rw [hrl] at hk
    split at hk
    ·rename_i hlt
     rw [if_pos hlt,List.getElem?_take,if_pos hlt,Array.getElem?_toList]
     exact hc k v (by exact hk)
    ·rename_i hge
     rw [if_neg hge,List.getElem?_append_left (List.getElem?_eq_some_iff.1 hk).1]
     exact hk
  ·obtain ⟨_,q2,q3⟩:=hnew c
   refine ⟨_,_,some w.heap.size,fun ty=>?_,q2,q3,fun b hb=>.inr (by injection hb with hb; omega)⟩
   exact run_append_grow (P:=Tryz.prog) w 39 ty 69 i0 HS.zs Tryz.underlying39 hi0 hz0 ⟨b,0,none⟩ rows.length c (cellsW 3 rows) (by rw [cellsW_len 3,hzs]) (fun j v hj=>by rw [Addr.add_lit,Nat.zero_add,cell_at hh]; exact hc j v hj) ⟨vb,voff,none⟩ 1 vc (cellsW 3 [r]) hl1 hnews (by omega) (by omega) (by rw [hzb]; exact growslice_fits (by omega) (by omega))
theorem seatsV_ins (rows:List (List D)) (i:Nat) (r:List D) (hi:i≤rows.length) {k:Nat} {v:Value} (hk:(cellsW 3 (insRows rows i r))[k]?=some v) :
  (k<i*3∧(cellsW 3 rows)[k]?=some v)∨(i*3≤k∧k<(i+1)*3∧(cellsW 3 [r])[k - i*3]?=some v)∨((i+1)*3≤k∧((cellsW 3 rows).drop (i*3))[k - (i+1)*3]?=some v):=by
 have htl:((cellsW 3 rows).take (i*3)).length=i*3:=by rw [List.length_take,cellsW_len 3]; omega
 unfold insRows at hk
 rw [cellsW_app 3,cellsW_take 3,show r::rows.drop i = [r]++rows.drop i from rfl,cellsW_app 3,cellsW_drop 3,List.getElem?_append,htl] at hk
 split at hk
 ·rename_i hlt
  rw [List.getElem?_take,if_pos hlt] at hk
  exact .inl ⟨hlt,hk⟩
 ·rename_i hge
  rw [List.getElem?_append] at hk
  split at hk
  ·rename_i hlt
   have hlt:k - i*3<3:=hlt
   exact .inr (.inl ⟨by omega,by omega,hk⟩)
  ·rename_i hge2
   have hge2:¬ k - i*3<3:=hge2
   refine .inr (.inr ⟨by omega,?_⟩)
   rw [show k - (i+1)*3=k - i*3 - (cellsW 3 [r]).length from by show _=_ - 3; omega]
   exact hk
def i_insSE:Ent:=(140,e3 (sd (.sl 69)) ri (sd (.sl 69)) fun p q r=>(⟨.tup [.agg [.kb true]],[.l (insRows (gd p 0).rows (gd q 0).int.toNat ((gd r 0).rows.getD 0 []))]⟩,leI ((gd p 0).rows.length:Int) 1000000&&leI 0 (gd q 0).int&&leI (gd q 0).int ((gd p 0).rows.length:Int)&&((gd r 0).rows.length==1)))
theorem i_insS_ok:EntOk Tryz.prog i_insSE:=e3_ok fun p q r h=>by
 have h:(leI ((gd p 0).rows.length:Int) 1000000&&leI 0 (gd q 0).int&&leI (gd q 0).int ((gd p 0).rows.length:Int)&&((gd r 0).rows.length==1))=true:=h
 simp only [Bool.and_eq_true,leI,decide_eq_true_eq,beq_iff_eq] at h
 obtain ⟨⟨⟨h1,hq0⟩,hq1⟩,h3⟩:=h
 refine SoundFn.ofK rfl ⟨enters Tryz.func140 (by kernel_rfl) (by kernel_rfl),fun e x rest row he hrow hflat w prot u B vs hO hB hfr hargs hko=>?_⟩
 injection he with he hre
 injection he with he hp
 injection he with he
 injection he with he
 injection he with he
 injection he with he
 subst he hp hre
 rw [row_seat] at hrow
 injection hrow with hrow
 subst hrow
 obtain ⟨uv,rfl,hv⟩:=args_isS (hargs w (Changed.refl w B))
 have h1:(x.rows.length:Int)≤1000000:=h1
 have hq1:(gd q 0).int≤(x.rows.length:Int):=hq1
 obtain ⟨r0,hr0⟩:∃ r0,(gd r 0).rows = [r0]:=List.length_eq_one_iff.1 h3
 obtain ⟨VA,vc,rfl,_,hvc63,hvp,hvr⟩:=vd_seats hv
 rw [hr0] at hvp hvr
 obtain ⟨vb,vo,rfl⟩:=hvp (by simp)
 have hvr:=hvr vb vo rfl
 obtain ⟨i,hi⟩:∃ i:Nat,(gd q 0).int=i:=⟨(gd q 0).int.toNat,by omega⟩
 have hout:(gd [D.l (insRows x.rows (gd q 0).int.toNat ((gd r 0).rows.getD 0 []))] 0).rows=insRows x.rows i r0:=by rw [hi,hr0]; rfl
 have hko:=hko rfl 1 _ _ _ rfl (by rw [hr0]; simp)
 obtain ⟨vb',varr,vE,hvb,hvh⟩:=hko
 injection hvb with hvb
 injection hvb with e1 e2 _
 subst e1 e2
 show Calls _ _ _ w fun ex w'=>∃ v' B',ex=.returned v'∧Changed w w' B∧OwnK w' _ _ (gd [D.l (insRows x.rows (gd q 0).int.toNat ((gd r 0).rows.getD 0 []))] 0).rows v' B'∧_
 rw [hout,hr0,hi]
 have hvs:∀ (k:Nat) v,(cellsW 3 [r0])[k]?=some v→w.cell? ⟨vb,0+k,none⟩=some v:=fun k v hk=>(hvr k v hk).1
 have hpv:0<prot vb:=Nat.lt_of_le_of_lt (Nat.zero_le _) (hvr 0 _ rfl).2
 show Calls _ _ #[u,.int .i64 (i:Int),.slice (some ⟨vb,0,none⟩) 1 vc] w _
 by_cases hend:i=x.rows.length
 ·have hins:insRows x.rows i r0=x.rows ++ [r0]:=by unfold insRows; rw [hend]; simp
  rw [hins]
  have hform:∃ base c,u=.slice base x.rows.length c∧x.rows.length≤c∧c≤9223372036854775807∧(base=none→c=0):=by
   rcases own3_get hO with ⟨_,h0,A,rfl⟩ | ⟨b,cap,arr,rfl,rfl,hle,h63,_⟩
   ·exact ⟨A,0,by rw [h0]; rfl,by rw [h0]; simp,by omega,fun _=>rfl⟩
   ·exact ⟨_,cap,rfl,hle,h63,fun h=>by cases h⟩
  obtain ⟨base,c,rfl,hle,h63,hbn⟩:=hform
  obtain ⟨v',w1,B',k1,k2,k3,k4⟩:=app_oneS hO vb 0 vc (by omega) hvs
  rw [hend]
  refine (HS.ins_end base x.rows.length c vb 0 vc w w1 v' hle h63 hbn k1).mono ?_
  rintro ex w' ⟨rfl,rfl⟩
  exact ⟨_,B',rfl,k2,k3,k4⟩
 ·have hlt:i<x.rows.length:=by omega
  rcases own3_get hO with ⟨_,h0,_⟩ | ⟨b,cap,arr,rfl,rfl,hle,h63,hh,hs,hc⟩
  ·rw [h0] at hlt; simp at hlt
  ·have hne:vb≠b:=by
    rintro rfl
    have:=hB vb rfl
    omega
   obtain ⟨n,hn⟩:∃ n,n=x.rows.length:=⟨_,rfl⟩
   rw [← hn] at hle hlt ⊢
   have hcl:(cellsW 3 x.rows).length=n*3:=by rw [cellsW_len 3,hn]
   have hcs:∀ (j:Nat) v,(cellsW 3 x.rows)[j]?=some v→w.cell? ⟨b,0+j,none⟩=some v:=fun j v hj=>by rw [Nat.zero_add,cell_at hh]; exact hc j v hj
   have hil:(insRows x.rows i r0).length=n+1:=by simp [insRows]; omega
   have hdl:((cellsW 3 x.rows).drop (i*3)).length=(n - i)*3:=by rw [List.length_drop,hcl]; omega
   have hvl:(cellsW 3 [r0]).length=3:=rfl
   by_cases hroom:n+1≤cap
   ·have:=HS.ins_shift b 0 n cap i (i+1) vb 0 vc (cellsW 3 x.rows) (cellsW 3 [r0]) w rfl hlt hroom h63 hne hcl rfl hcs
     (fun j hj=>by rw [Nat.zero_add,cell_at hh,Array.getElem?_eq_getElem (by omega)]; rfl) (fun j _=>unfrozen hh _) hvs (cellsW_one 3 _) (cellsW_one 3 _) vE 69 varr.size arr.size (by simp [World.shape?,hvh]) (by simp [World.shape?,hh]) (by omega) (unfrozen hvh _) (unfrozen hvh _)
    refine this.mono ?_
    rintro ex w' ⟨rfl,rfl⟩
    obtain ⟨arr1,a1,a2,a3,a4⟩:=setCells_heap b 69 (0,0) ((cellsW 3 x.rows).drop (i*3)) (0+(i+1)*3) w.drew arr hh (by rw [hdl,hs]; omega)
    obtain ⟨arr2,b1,b2,b3,b4⟩:=setCells_heap b 69 (0,0) (cellsW 3 [r0]) (0+i*3) _ arr1 a1 (by rw [hvl,a2,hs]; omega)
    obtain ⟨c1,c2,c3,c4,c5⟩:=setCells_else b ((cellsW 3 x.rows).drop (i*3)) (0+(i+1)*3) w.drew
    obtain ⟨d1,d2,d3,d4,d5⟩:=setCells_else b (cellsW 3 [r0]) (0+i*3) (w.drew.setCells b (0+(i+1)*3) ((cellsW 3 x.rows).drop (i*3)))
    refine ⟨_,some b,rfl,⟨d1.trans c1,d2.trans c2,d3.trans c3,Nat.le_of_eq (d4.trans c4).symm,fun k _ hk=>(d5 k (fun e=>hk (by rw [e]))).trans (c5 k (fun e=>hk (by rw [e])))⟩,?_,fun b hb=>.inl hb⟩
    refine own3_mk b1 hil.symm (by rw [b2,a2,hs]) (by omega) h63 fun k v hk=>?_
    rcases seatsV_ins x.rows i r0 (by omega) hk with ⟨q1,q2⟩ | ⟨q1,q2,q3⟩ | ⟨q1,q2⟩
    ·rw [b3 k (.inl (by omega)),a3 k (.inl (by omega))]
     exact hc k v q2
    ·have:=b4 _ v q3
     rwa [show 0+i*3+(k - i*3)=k from by omega] at this
    ·rw [b3 k (.inr (by rw [hvl]; omega))]
     have:=a4 _ v q2
     rwa [show 0+(i+1)*3+(k - (i+1)*3)=k from by omega] at this
   ·obtain rfl:cap=n:=by omega
    have:=HS.ins_grow b 0 cap i (i+1) vb 0 vc (cellsW 3 x.rows) (cellsW 3 [r0]) w rfl hlt (by omega) hcl rfl hcs hvs (cellsW_one 3 _) (cellsW_one 3 _)
    refine this.mono ?_
    rintro ex w' ⟨rfl,rfl⟩
    have hge:=grownCap_ge w (cap+1) cap 69
    have hcm:=grownCap_le_maxLen w (cap+1) cap 69 (by unfold maxLen; omega)
    obtain ⟨G,hG⟩:∃ G,G=grownCap w (cap+1) cap 69:=⟨_,rfl⟩
    rw [← hG] at hge hcm ⊢
    have hzz:HS.zs.cells.size=3:=rfl
    obtain ⟨ROW,hROW⟩:∃ ROW:Array Value,ROW=((cellsW 3 x.rows).take (i*3)).toArray++Builtin.zeroCells HS.zs.cells (cap+1 - i)++Builtin.zeroCells HS.zs.cells (G - (cap+1)):=⟨_,rfl⟩
    have htl:((cellsW 3 x.rows).take (i*3)).length=i*3:=by rw [List.length_take,hcl]; omega
    have hRs:ROW.size=G*3:=by
     rw [hROW]
     simp only [Array.size_append,List.size_toArray,htl,size_zeroCells,hzz]
     omega
    have hRt:∀ (k:Nat) v,k<i*3→(cellsW 3 x.rows)[k]?=some v→ROW[k]?=some v:=fun k v hk hv=>by
     rw [hROW,Array.append_assoc,Array.getElem?_append_left (by simp only [List.size_toArray,htl]; exact hk)]
     simp [List.getElem?_take,hk,hv]
    rw [← hROW]
    have hW:((w.alloc (.cells ROW 69)).drew).heap[w.heap.size]?=some (.cells ROW 69 (0,0)):=by letI:Low:=noLow; exact heap_new w _
    obtain ⟨arr1,a1,a2,a3,a4⟩:=setCells_heap w.heap.size 69 (0,0) (cellsW 3 [r0]) (i*3) _ ROW hW (by rw [hvl,hRs]; omega)
    obtain ⟨arr2,b1,b2,b3,b4⟩:=setCells_heap w.heap.size 69 (0,0) ((cellsW 3 x.rows).drop (i*3)) ((i+1)*3) ((((w.alloc (.cells ROW 69)).drew).setCells w.heap.size (i*3) (cellsW 3 [r0])).drew) arr1 a1 (by rw [hdl,a2,hRs]; omega)
    obtain ⟨c1,c2,c3,c4,c5⟩:=setCells_else w.heap.size (cellsW 3 [r0]) (i*3) ((w.alloc (.cells ROW 69)).drew)
    obtain ⟨d1,d2,d3,d4,d5⟩:=setCells_else w.heap.size ((cellsW 3 x.rows).drop (i*3)) ((i+1)*3) ((((w.alloc (.cells ROW 69)).drew).setCells w.heap.size (i*3) (cellsW 3 [r0])).drew)
    refine ⟨_,some w.heap.size,rfl,⟨d1.trans c1,d2.trans c2,d3.trans c3,?_,fun k hk _=>(d5 k (by omega)).trans ((c5 k (by omega)).trans (Below.heap_alloc w _ k hk))⟩,?_,fun b hb=>.inr (by injection hb with hb; omega)⟩
    ·refine Nat.le_trans ?_ (Nat.le_of_eq (d4.trans c4).symm)
     show w.heap.size≤(w.heap.push _).size
     rw [Array.size_push]
     omega
    ·refine own3_mk b1 hil.symm (by rw [b2,a2,hRs]) (by omega) (by unfold maxLen at hcm; omega) fun k v hk=>?_
     rcases seatsV_ins x.rows i r0 (by omega) hk with ⟨q1,q2⟩ | ⟨q1,q2,q3⟩ | ⟨q1,q2⟩
     ·rw [b3 k (.inl (by omega)),a3 k (.inl (by omega))]
      exact hRt k v q1 q2
     ·rw [b3 k (.inl (by omega))]
      have:=a4 _ v q3
      rwa [show i*3+(k - i*3)=k from by omega] at this
     ·have:=b4 _ v q2
      rwa [show (i+1)*3+(k - (i+1)*3)=k from by omega] at this
end Go.Proofs.YthbbbhpjkgpdcaaGreat
namespace Go.Proofs.YthbbbhpjkgpdcaaGreat
set_option maxRecDepth 4096
set_option maxHeartbeats 1000000
structure SortedW (z:D):Prop where
 len:z.rows.length≤1000
 key:∀ k,k<z.rows.length→0≤keyAt z k∧keyAt z k≤999
 lt:∀ i j,i<j→j<z.rows.length→keyAt z i<keyAt z j
end Go.Proofs.YthbbbhpjkgpdcaaGreat
namespace Go.Proofs.YthbbbhpjkgpdcaaGreat
set_option maxRecDepth 4096
set_option maxHeartbeats 1000000
theorem cnt_leW {C:Nat→Bool}:∀ m k,cnt C k m≤m
 | 0,_=>Nat.le_refl _
 | m+1,k=>by
  have:=cnt_leW (C:=C) m k
  rw [cnt_succ]
  cases C (k+m) <;> simp <;> omega
theorem low_le (z:D) (t:Int):lowN z t≤z.rows.length:=cnt_leW _ _
theorem bs_lt {z:D} {t:Int} (h:bsB z t=true):lowN z t<z.rows.length:=by
 simp only [bsB,Bool.and_eq_true,ltI,decide_eq_true_eq] at h
 omega
def putRaw (z k v:D):D:=bif bsB z k.int then (bif v.int == -1 then .l (delRows z.rows (lowN z k.int)) else .l (z.rows.set (lowN z k.int) [gd (z.rows.getD (lowN z k.int) []) 0,v])) else (bif v.int == -1 then .l z.rows else .l (insRows z.rows (lowN z k.int) [k,v]))
abbrev s_l2CellsT:FuncId→List T→Option (T × Bool):=find []
theorem s_l2CellsT_ok:CallOk Tryz.prog s_l2CellsT:=find_ok (fN)
abbrev s_l2CellsK:List Nat:= [0,1,2,3,8,9,10,11,18,31,44,53,3000008]
noncomputable def s_l2CellsL0 (N:Nat) (p q r s:List D):List D→Out:=loopOf Tryz.prog s_l2CellsT N s_l2CellsK Tryz.f146 (.one (.c (.own (0,0) true 148))) [⟨sd (.sl 148),p⟩,⟨ri,q⟩,⟨ri,r⟩,⟨rb,s⟩] 0
theorem s_l2CellsR0 (N:Nat) (p q r s:List D) (x0 x1 x2 x3 x4 x5 x6 x7:D):(s_l2CellsL0 N p q r s) [x0,x1,x2,x3,x4,x5,x6,x7] =
 bif ltI x7.int (x0.rows.length:Int) then bif !x6.bool then nd (inRange x7.int x0.rows.length) (bif leI x1.int (gd (x0.rows.getD x7.int.toNat []) 0).int then nd (lenOk (x5.rows ++ [[x1,x2]])&&true) ((let r8:Out:=nx [x0,x1,x2,x3,x4,.l (x5.rows ++ [[x1,x2]]),.b true,x7,.b (ltI x7.int (x0.rows.length:Int)),.b (leI x1.int (gd (x0.rows.getD x7.int.toNat []) 0).int)]
  nd r8.isSome (nd (inRange (gd r8.pay 7).int (gd r8.pay 0).rows.length) (bif (gd ((gd r8.pay 0).rows.getD (gd r8.pay 7).int.toNat []) 0).int != (gd r8.pay 1).int then nd (inRange (gd r8.pay 7).int (gd r8.pay 0).rows.length) (nd (lenOk ((gd r8.pay 5).rows ++ [sub ((gd r8.pay 0).rows.getD (gd r8.pay 7).int.toNat []) 0 2])&&true) (nx [gd r8.pay 0,gd r8.pay 1,gd r8.pay 2,gd r8.pay 3,gd r8.pay 4,.l ((gd r8.pay 5).rows ++ [sub ((gd r8.pay 0).rows.getD (gd r8.pay 7).int.toNat []) 0 2]),gd r8.pay 6,.i (w64 ((gd r8.pay 7).int+1))]))
  else nx [gd r8.pay 0,gd r8.pay 1,gd r8.pay 2,gd r8.pay 3,gd r8.pay 4,gd r8.pay 5,gd r8.pay 6,.i (w64 ((gd r8.pay 7).int+1))]))))
 else nd (inRange x7.int x0.rows.length) (bif (gd (x0.rows.getD x7.int.toNat []) 0).int != x1.int then nd (inRange x7.int x0.rows.length) (nd (lenOk (x5.rows ++ [sub (x0.rows.getD x7.int.toNat []) 0 2])&&true) (nx [x0,x1,x2,x3,x4,.l (x5.rows ++ [sub (x0.rows.getD x7.int.toNat []) 0 2]),x6,.i (w64 (x7.int+1))]))
 else nx [x0,x1,x2,x3,x4,x5,x6,.i (w64 (x7.int+1))]))
 else nd (inRange x7.int x0.rows.length) (bif (gd (x0.rows.getD x7.int.toNat []) 0).int != x1.int then nd (inRange x7.int x0.rows.length) (nd (lenOk (x5.rows ++ [sub (x0.rows.getD x7.int.toNat []) 0 2])&&true) (nx [x0,x1,x2,x3,x4,.l (x5.rows ++ [sub (x0.rows.getD x7.int.toNat []) 0 2]),x6,.i (w64 (x7.int+1))]))
 else nx [x0,x1,x2,x3,x4,x5,x6,.i (w64 (x7.int+1))])
 else ex 0 [x0,x1,x2,x3,x4,x5,x6,x7]:=by kernel_rfl
theorem s_l2Cells_ev (N:Nat) (p q r s:List D):evFn Tryz.prog s_l2CellsT N s_l2CellsK Tryz.f146 (.one (.c (.own (0,0) true 148))) [⟨sd (.sl 148),p⟩,⟨ri,q⟩,⟨ri,r⟩,⟨rb,s⟩]=some (bo,
 (let o0:=iter (s_l2CellsL0 N p q r s) N [gd p 0,gd q 0,gd r 0,gd s 0,.l [],.l [],.b (!(gd s 0).bool),.i 0]
  nd o0.isSome (nd (o0.code==2) (bif !(gd o0.pay 6).bool then nd (lenOk ((gd o0.pay 5).rows ++ [sub o0.pay 1 2])&&true) (some (1,[.l ((gd o0.pay 5).rows ++ [sub o0.pay 1 2])]))
  else some (1,[gd o0.pay 5]))))):=by kernel_rfl
def stepL (k v:D) (st:List (List D) × Bool) (r:List D):List (List D) × Bool:=
 (bif (gd r 0).int != k.int then (bif !st.2&&leI k.int (gd r 0).int then st.1 ++ [[k,v]] else st.1) ++ [sub r 0 2] else (bif !st.2&&leI k.int (gd r 0).int then st.1 ++ [[k,v]] else st.1),st.2||leI k.int (gd r 0).int)
def accL (z k v:D) (keep:Bool) (n:Nat):List (List D) × Bool:=(z.rows.take n).foldl (stepL k v) ([],!keep)
theorem accL_succ (z k v:D) (keep:Bool) {n:Nat} (h:n<z.rows.length):accL z k v keep (n+1)=stepL k v (accL z k v keep n) (z.rows.getD n []):=by
 unfold accL
 rw [List.take_add_one,List.foldl_append,List.getElem?_eq_getElem h,List.getD_eq_getElem?_getD,List.getElem?_eq_getElem h]
 rfl
theorem accL_len (z k v:D) (keep:Bool):∀ n,n≤z.rows.length→(accL z k v keep n).1.length≤2*n
 | 0,_=>by simp [accL]
 | n+1,h=>by
  rw [accL_succ z k v keep (by omega)]
  have:=accL_len z k v keep n (by omega)
  unfold stepL
  generalize accL z k v keep n=A at *
  cases !A.2&&leI k.int (gd (z.rows.getD n []) 0).int <;> cases (gd (z.rows.getD n []) 0).int != k.int <;> simp <;> omega
def l2Raw (z k v:D) (keep:Bool):D:=.l (bif !(accL z k v keep z.rows.length).2 then (accL z k v keep z.rows.length).1 ++ [[k,v]] else (accL z k v keep z.rows.length).1)
def s_l2CellsE:Ent:=(146,e4 (sd (.sl 148)) ri ri rb fun p q r s=>(⟨.one (.c (.own (0,0) true 148)),[l2Raw (gd p 0) (gd q 0) (gd r 0) (gd s 0).bool]⟩,leI ((gd p 0).rows.length:Int) 1000000))
theorem s_l2Cells_ok:EntOk Tryz.prog s_l2CellsE:=e4_ok fun p q r s h=>evFn_sound (N:=(gd p 0).rows.length+1) (ks:=s_l2CellsK) (key:=bo) s_l2CellsT_ok (enters Tryz.func146) Tryz.func146 fun hw=>by
 rw [s_l2Cells_ev]
 have h:leI ((gd p 0).rows.length:Int) 1000000=true:=h
 simp only [leI,decide_eq_true_eq] at h
 have e:=run_loop (L:=s_l2CellsL0 ((gd p 0).rows.length+1) p q r s) (fun n => [gd p 0,gd q 0,gd r 0,gd s 0,.l [],.l (accL (gd p 0) (gd q 0) (gd r 0) (gd s 0).bool n).1,.b (accL (gd p 0) (gd q 0) (gd r 0) (gd s 0).bool n).2,.i (n:Int)]) (gd p 0).rows.length 0 (fun k hk=>?_) ?_ (N:=(gd p 0).rows.length+1) (by omega)
 ·simp only [Int.natCast_zero] at e
  rw [show (accL (gd p 0) (gd q 0) (gd r 0) (gd s 0).bool 0)=([],!(gd s 0).bool) from rfl] at e
  rw [e]
  have hA:=accL_len (gd p 0) (gd q 0) (gd r 0) (gd s 0).bool _ (Nat.le_refl _)
  simp only [nd,cond_true,cond_false,Option.isSome_some,Out.code,Out.pay,Option.getD_some,gd_cons_zero,gd_cons_succ,Nat.reduceBEq,Nat.reduceAdd,int_i,bool_b,str_s,rows_l,Bool.not_true,Bool.not_false,beq_self_eq_true]
  unfold l2Raw
  generalize accL (gd p 0) (gd q 0) (gd r 0) (gd s 0).bool (gd p 0).rows.length=A at *
  have hA2:lenOk (A.1 ++ [[gd q 0,gd r 0]])=true:=lenOk_t (by simp; omega)
  cases A.2
  ·change some (bo,bif lenOk (A.1 ++ [[gd q 0,gd r 0]])&&true then some (1,[D.l (A.1 ++ [[gd q 0,gd r 0]])]) else none)=_
   rw [hA2]
   rfl
  ·rfl
 ·show s_l2CellsL0 _ p q r s [_,_,_,_,_,_,_,.i (k:Int)]=_
  rw [s_l2CellsR0,accL_succ _ _ _ _ hk]
  have hA:=accL_len (gd p 0) (gd q 0) (gd r 0) (gd s 0).bool k (by omega)
  generalize accL (gd p 0) (gd q 0) (gd r 0) (gd s 0).bool k=A at *
  have hA1:∀ x,lenOk (A.1 ++ [x])=true:=fun x=>lenOk_t (by simp; omega)
  have hA2:∀ x y,lenOk (A.1 ++ [x] ++ [y])=true:=fun x y=>lenOk_t (by simp; omega)
  simp only [int_i,bool_b,rows_l,c_lt hk,nd_ix hk,w64_succ hk (show (gd p 0).rows.length≤9223372036854775807 from by omega),Int.toNat_natCast,stepL,hA1,Bool.and_true,nd_true]
  cases A.2 <;> cases leI (gd q 0).int (gd ((gd p 0).rows.getD k []) 0).int <;> cases hn:(gd ((gd p 0).rows.getD k []) 0).int != (gd q 0).int <;> simp only [nd,cond_true,cond_false,Option.isSome_some,Out.code,Out.pay,Option.getD_some,gd_cons_zero,gd_cons_succ,Nat.reduceBEq,Nat.reduceAdd,int_i,bool_b,str_s,rows_l,Bool.not_true,Bool.not_false,beq_self_eq_true,hA1,hA2,hn,inRange_nat hk,Int.toNat_natCast,Bool.and_true,Bool.and_false,Bool.false_and,Bool.true_and,Bool.or_true,Bool.or_false,Bool.true_or,Bool.false_or,w64_succ hk (show (gd p 0).rows.length≤9223372036854775807 from by omega)]
 ·show s_l2CellsL0 _ p q r s [_,_,_,_,_,_,_,.i ((gd p 0).rows.length:Int)]=_
  rw [s_l2CellsR0]
  simp only [int_i,c_nlt]
end Go.Proofs.YthbbbhpjkgpdcaaGreat
namespace Go.Proofs.YthbbbhpjkgpdcaaGreat
set_option maxRecDepth 4096
set_option maxHeartbeats 1000000
end Go.Proofs.YthbbbhpjkgpdcaaGreat
namespace Go.Proofs.YthbbbhpjkgpdcaaGreat
set_option maxRecDepth 4096
set_option maxHeartbeats 1000000
end Go.Proofs.YthbbbhpjkgpdcaaGreat
namespace Go.Proofs.YthbbbhpjkgpdcaaGreat
set_option maxRecDepth 4096
set_option maxHeartbeats 1000000
end Go.Proofs.YthbbbhpjkgpdcaaGreat
namespace Go.Proofs.YthbbbhpjkgpdcaaGreat
set_option maxRecDepth 4096
set_option maxHeartbeats 1000000
end Go.Proofs.YthbbbhpjkgpdcaaGreat
namespace Go.Proofs.YthbbbhpjkgpdcaaGreat
set_option maxRecDepth 4096
set_option maxHeartbeats 1000000
end Go.Proofs.YthbbbhpjkgpdcaaGreat
namespace Go.Proofs.YthbbbhpjkgpdcaaGreat
set_option maxRecDepth 4096
set_option maxHeartbeats 1000000
end Go.Proofs.YthbbbhpjkgpdcaaGreat
namespace Go.Proofs
open Go.Shelf
end Go.Proofs
namespace Go.Proofs.YthbbbhpjkgpdcaaGreat
open Go.RowKit (Below)
def numsOf (z:D):List Int:=z.rows.map fun r=>(gd r 0).int
end Go.Proofs.YthbbbhpjkgpdcaaGreat
namespace Go.Proofs.YthbbbhpjkgpdcaaGreat
set_option maxRecDepth 4096
set_option maxHeartbeats 1000000
theorem iter_nx {L:List D→Out} {n:Nat} {p q:List D} (h:L p=nx q):iter L (n+1) p=iter L n q:=by
 show (match L p with | some (0,p')=>iter L n p' | o=>o)=_
 rw [h]; rfl
theorem iter_ex {L:List D→Out} {n c:Nat} {p q:List D} (h:L p=some (c+1,q)):iter L (n+1) p=some (c+1,q):=by
 show (match L p with | some (0,p')=>iter L n p' | o=>o)=_
 rw [h]; rfl
end Go.Proofs.YthbbbhpjkgpdcaaGreat
namespace Go.Proofs.YthbbbhpjkgpdcaaGreat
set_option maxRecDepth 4096
set_option maxHeartbeats 1000000
def vAt (z:D) (i:Nat):Int:=(gd (z.rows.getD i []) 0).int
end Go.Proofs.YthbbbhpjkgpdcaaGreat
namespace Go.Proofs.YthbbbhpjkgpdcaaGreat
set_option maxRecDepth 4096
set_option maxHeartbeats 1000000
end Go.Proofs.YthbbbhpjkgpdcaaGreat
namespace Go.Proofs.YthbbbhpjkgpdcaaGreat
set_option maxRecDepth 4096
set_option maxHeartbeats 1000000
def ndN:Nat→Bool→Out→Out
 | 0,_,x=>x
 | n+1,c,x=>nd c (ndN n c x)
theorem ndN_true {x:Out}:∀ n,ndN n true x=x
 | 0=>rfl
 | n+1=>by rw [ndN,ndN_true n]; rfl
def lastHi (rs:List (List D)):Int:=(gd (rs.getD (rs.length - 1) []) 1).int
def addR (rs:List (List D)) (lo hi:Int):List (List D):=
 bif ltI 0 (rs.length:Int)&&(lastHi rs==lo) then rs.set (rs.length - 1) [gd (rs.getD (rs.length - 1) []) 0,.i hi] else rs ++ [[.i lo,.i hi]]
theorem getD_set_at {l:List (List D)} {i:Nat} {x:List D} (h:i<l.length):(l.set i x).getD i []=x:=by
 simp [List.getD_eq_getElem?_getD,List.getElem?_set,h]
theorem getD_app_at (l:List (List D)) (x:List D):(l ++ [x]).getD l.length []=x:=by
 simp [List.getD_eq_getElem?_getD]
structure PartsW (z:D):Prop where
 lo:∀ k,k<z.rows.length→(gd (z.rows.getD k []) 0).int=(endD z k).int
 lt:∀ k,k<z.rows.length→(endD z k).int<(endD z (k+1)).int
 n:z.rows.length≤16
 e:(endD z z.rows.length).int=1000
theorem PartsW.mono {z:D} (h:PartsW z):∀ m k,k+m≤z.rows.length→(endD z k).int≤(endD z (k+m)).int
 | 0,k,_=>Int.le_refl _
 | m+1,k,hk=>by
  have:=h.mono m k (by omega)
  have h2:=h.lt (k+m) (by omega)
  rw [show k+(m+1)=k+m+1 from by omega]
  omega
def addQ (rs:List (List D)) (lo hi:D):List (List D):=
 bif ltI 0 (rs.length:Int)&&(lastHi rs==lo.int) then rs.set (rs.length - 1) [gd (rs.getD (rs.length - 1) []) 0,hi] else rs ++ [[lo,hi]]
def SameI (a b:List (List D)):Prop:=a.length=b.length∧∀ i j,(gd (a.getD i []) j).int=(gd (b.getD i []) j).int
theorem SameI.add {a b:List (List D)} (h:SameI a b) (lo hi:D):SameI (addQ a lo hi) (addR b lo.int hi.int):=by
 unfold addQ addR
 have e:lastHi a=lastHi b:=by unfold lastHi; rw [h.1]; exact h.2 _ _
 rw [e,h.1]
 cases (ltI 0 (b.length:Int)&&(lastHi b==lo.int))
 ·refine ⟨by simp [h.1],fun i j=>?_⟩
  simp only [cond_false]
  by_cases hi':i<b.length
  ·have q1:(a ++ [[lo,hi]]).getD i []=a.getD i []:=by simp [List.getD_eq_getElem?_getD,List.getElem?_append_left (show i<a.length by rw [h.1]; exact hi')]
   have q2:(b ++ [[D.i lo.int,D.i hi.int]]).getD i []=b.getD i []:=by simp [List.getD_eq_getElem?_getD,List.getElem?_append_left hi']
   rw [q1,q2]; exact h.2 i j
  ·by_cases hi2:i=b.length
   ·subst hi2
    rw [getD_app_at,← h.1,getD_app_at]
    match j with
    | 0=>rfl
    | 1=>rfl
    | j+2=>rfl
   ·have q1:(a ++ [[lo,hi]]).getD i [] = []:=by rw [List.getD_eq_getElem?_getD,List.getElem?_eq_none (by have:=h.1; rw [List.length_append,this]; show b.length+1≤i; omega)]; rfl
    have q2:(b ++ [[D.i lo.int,D.i hi.int]]).getD i [] = []:=by rw [List.getD_eq_getElem?_getD,List.getElem?_eq_none (by simp; omega)]; rfl
    rw [q1,q2]
 ·refine ⟨by simp [h.1],fun i j=>?_⟩
  simp only [cond_true]
  by_cases hi':i=b.length - 1∧i<b.length
  ·obtain ⟨rfl,hlt⟩:=hi'
   rw [getD_set_at hlt,getD_set_at (by rw [h.1]; exact hlt)]
   match j with
   | 0=>exact h.2 _ _
   | 1=>rfl
   | j+2=>rfl
  ·have q:∀ (l:List (List D)) (y:List D),l.length=b.length→(l.set (b.length - 1) y).getD i []=l.getD i []:=fun l y hl=>by
    simp only [List.getD_eq_getElem?_getD,List.getElem?_set]
    split
    ·split
     ·exact absurd ⟨by omega,by omega⟩ hi'
     ·rw [List.getElem?_eq_none (by omega)]
    ·rfl
   rw [q a _ h.1,q b _ rfl]
   exact h.2 i j
end Go.Proofs.YthbbbhpjkgpdcaaGreat
namespace Go.Proofs.YthbbbhpjkgpdcaaGreat
def keyR (r:List D):Int:=(gd r 0).int
theorem getD_mid (A:List (List D)) (b:List D) (B:List (List D)):(A++b::B).getD A.length []=b:=by
 rw [List.getD_eq_getElem?_getD,List.getElem?_append_right (Nat.le_refl _),Nat.sub_self]; rfl
theorem keyAt_lt {A B:List (List D)} {k:Nat} (h:k<A.length):keyAt (.l (A++B)) k=keyR (A.getD k []):=by
 show (gd ((A++B).getD k []) 0).int=_
 rw [List.getD_eq_getElem?_getD,List.getElem?_append_left h,← List.getD_eq_getElem?_getD]; rfl
theorem keyAt_ge {A B:List (List D)} {k:Nat} (h:A.length≤k):keyAt (.l (A++B)) k=keyR (B.getD (k - A.length) []):=by
 show (gd ((A++B).getD k []) 0).int=_
 rw [List.getD_eq_getElem?_getD,List.getElem?_append_right h,← List.getD_eq_getElem?_getD]; rfl
theorem getD_in {A:List (List D)} {k:Nat} (h:k<A.length):A.getD k []∈A:=by
 rw [List.getD_eq_getElem?_getD,List.getElem?_eq_getElem h]; exact List.getElem_mem h
theorem rows_asc {z:D} (h:SortN z):z.rows.Pairwise fun a b=>keyR a<keyR b:=by
 refine List.pairwise_iff_getElem.2 fun i j hi hj hij=>?_
 have:=h.lt i j hij hj
 unfold keyAt at this
 rw [List.getD_eq_getElem?_getD,List.getD_eq_getElem?_getD,List.getElem?_eq_getElem hi,List.getElem?_eq_getElem hj] at this
 exact this
theorem split_at (t:Int):∀ rs:List (List D),rs.Pairwise (fun a b=>keyR a<keyR b)→∃ A B,rs=A++B∧(∀ r∈A,keyR r<t)∧∀ r∈B,t≤keyR r
 | [],_=>⟨[],[],rfl,fun _ h=>(by simp at h),fun _ h=>(by simp at h)⟩
 | r::rs,h=>by
  obtain ⟨h1,h2⟩:=List.pairwise_cons.1 h
  by_cases hr:keyR r<t
  ·obtain ⟨A,B,e,a,b⟩:=split_at t rs h2
   refine ⟨r::A,B,by rw [e]; rfl,fun x hx=>?_,b⟩
   rcases List.mem_cons.1 hx with rfl | hx
   ·exact hr
   ·exact a x hx
  ·refine ⟨[],r::rs,rfl,fun _ h=>by simp at h,fun x hx=>?_⟩
   rcases List.mem_cons.1 hx with rfl | hx
   ·omega
   ·have:=h1 x hx
    omega
theorem low_cases {z:D} (h:SortN z) (t:Int):∃ A B:List (List D),A.length=lowN z t∧(∀ r∈A,keyR r<t)∧(∀ r∈B,t<keyR r) ∧
  ((bsB z t=false∧z.rows=A++B)∨(bsB z t=true∧∃ b,keyR b=t∧z.rows=A++b::B)):=by
 obtain ⟨A,B,e,a,b⟩:=split_at t z.rows (rows_asc h)
 have hz:∀ k,keyAt z k=keyAt (.l (A++B)) k:=fun k=>by rw [← e]; rfl
 have hlow:lowN z t=A.length:=lowN_eq (by rw [e]; simp) (fun k hk=>by rw [hz,keyAt_lt hk]; exact a _ (getD_in hk)) (fun k h1 h2=>by
  rw [hz,keyAt_ge h1]
  rw [e,List.length_append] at h2
  exact b _ (getD_in (by omega)))
 have hb:bsB z t=(ltI (A.length:Int) (z.rows.length:Int)&&(keyAt z A.length==t)):=by unfold bsB; rw [hlow]
 cases B with
 | nil =>
  refine ⟨A,[],hlow.symm,a,fun _ h=>by simp at h,.inl ⟨?_,e⟩⟩
  rw [hb,e,List.append_nil,ltI_nn,Bool.false_and]
 | cons x B =>
  have hp:=(rows_asc h)
  rw [e] at hp
  have hp2:=(List.pairwise_append.1 hp).2.1
  obtain ⟨hx,_⟩:=List.pairwise_cons.1 hp2
  have hlt:ltI (A.length:Int) (z.rows.length:Int)=true:=ltI_t (by rw [e]; simp; omega)
  have hk:keyAt z A.length=keyR x:=by
   rw [hz,keyAt_ge (Nat.le_refl _),Nat.sub_self]; rfl
  have hge:=b x (by simp)
  rw [hlt,hk,Bool.true_and] at hb
  by_cases hxt:keyR x=t
  ·refine ⟨A,B,hlow.symm,a,fun r hr=>?_,.inr ⟨by rw [hb,hxt,beq_self_eq_true],x,hxt,e⟩⟩
   have:=hx r hr
   omega
  ·refine ⟨A,x::B,hlow.symm,a,fun r hr=>?_,.inl ⟨by rw [hb]; exact beq_eq_false_iff_ne.2 hxt,e⟩⟩
   rcases List.mem_cons.1 hr with rfl | hr
   ·omega
   ·have:=hx r hr
    omega
def stepW (w:Nat) (k:Int) (new:List D) (st:List (List D) × Bool) (r:List D):List (List D) × Bool:=
 (bif (gd r 0).int != k then (bif !st.2&&leI k (gd r 0).int then st.1 ++ [new] else st.1) ++ [sub r 0 w] else (bif !st.2&&leI k (gd r 0).int then st.1 ++ [new] else st.1),st.2||leI k (gd r 0).int)
theorem stepW_lt {w:Nat} {k:Int} {new:List D} {acc:List (List D)} {r:List D} (p:Bool) (h:keyR r<k):stepW w k new (acc,p) r=(acc ++ [sub r 0 w],p):=by
 unfold stepW
 have h:(gd r 0).int<k:=h
 rw [leI_f h,show ((gd r 0).int != k)=true from bne_iff_ne.2 (by omega)]
 cases p <;> rfl
theorem stepW_gt {w:Nat} {k:Int} {new:List D} {acc:List (List D)} {r:List D} (h:k<keyR r):stepW w k new (acc,true) r=(acc ++ [sub r 0 w],true):=by
 unfold stepW
 have h:k<(gd r 0).int:=h
 rw [show ((gd r 0).int != k)=true from bne_iff_ne.2 (by omega)]
 rfl
theorem fold_lt {w:Nat} {k:Int} {new:List D} (p:Bool):∀ (A acc:List (List D)),(∀ r∈A,keyR r<k)→A.foldl (stepW w k new) (acc,p)=(acc++A.map (fun r=>sub r 0 w),p)
 | [],acc,_=>by simp
 | r::A,acc,h=>by
  rw [List.foldl_cons,stepW_lt p (h r (by simp)),fold_lt p A _ (fun x hx=>h x (by simp [hx]))]
  simp
theorem fold_gt {w:Nat} {k:Int} {new:List D}:∀ (A acc:List (List D)),(∀ r∈A,k<keyR r)→A.foldl (stepW w k new) (acc,true)=(acc++A.map (fun r=>sub r 0 w),true)
 | [],acc,_=>by simp
 | r::A,acc,h=>by
  rw [List.foldl_cons,stepW_gt (h r (by simp)),fold_gt A _ (fun x hx=>h x (by simp [hx]))]
  simp
def finW (new:List D) (R:List (List D) × Bool):List (List D):=bif !R.2 then R.1 ++ [new] else R.1
theorem fold_no {w:Nat} {k:Int} {new:List D} {A B:List (List D)} (ha:∀ r∈A,keyR r<k) (hb:∀ r∈B,k<keyR r) :
  finW new ((A++B).foldl (stepW w k new) ([],false))=A.map (fun r=>sub r 0 w) ++ [new]++B.map (fun r=>sub r 0 w):=by
 rw [List.foldl_append,fold_lt false A [] ha]
 cases B with
 | nil=>simp [finW]
 | cons b B =>
  have hk:=hb b (by simp)
  have e:stepW w k new ([]++A.map (fun r=>sub r 0 w),false) b=([]++A.map (fun r=>sub r 0 w) ++ [new] ++ [sub b 0 w],true):=by
   unfold stepW
   have hk:k<(gd b 0).int:=hk
   rw [show ((gd b 0).int != k)=true from bne_iff_ne.2 (by omega),leI_t (by omega)]
   rfl
  rw [List.foldl_cons,e,fold_gt B _ (fun x hx=>hb x (by simp [hx]))]
  simp [finW]
theorem fold_yes {w:Nat} {k:Int} {new b:List D} {A B:List (List D)} (ha:∀ r∈A,keyR r<k) (hk:keyR b=k) (hb:∀ r∈B,k<keyR r) :
  finW new ((A++b::B).foldl (stepW w k new) ([],false))=A.map (fun r=>sub r 0 w) ++ [new]++B.map (fun r=>sub r 0 w):=by
 rw [List.foldl_append,fold_lt false A [] ha]
 have e:stepW w k new ([]++A.map (fun r=>sub r 0 w),false) b=([]++A.map (fun r=>sub r 0 w) ++ [new],true):=by
  unfold stepW
  have hk:(gd b 0).int=k:=hk
  rw [show ((gd b 0).int != k)=false from by rw [hk]; simp,leI_t (by omega)]
  rfl
 rw [List.foldl_cons,e,fold_gt B _ hb]
 simp [finW]
theorem fold_del {w:Nat} {k:Int} {new b:List D} {A B:List (List D)} (ha:∀ r∈A,keyR r<k) (hk:keyR b=k) (hb:∀ r∈B,k<keyR r) :
  finW new ((A++b::B).foldl (stepW w k new) ([],true))=A.map (fun r=>sub r 0 w)++B.map (fun r=>sub r 0 w):=by
 rw [List.foldl_append,fold_lt true A [] ha]
 have e:stepW w k new ([]++A.map (fun r=>sub r 0 w),true) b=([]++A.map (fun r=>sub r 0 w),true):=by
  unfold stepW
  have hk:(gd b 0).int=k:=hk
  rw [show ((gd b 0).int != k)=false from by rw [hk]; simp]
  rfl
 rw [List.foldl_cons,e,fold_gt B _ hb]
 simp [finW]
theorem fold_none {w:Nat} {k:Int} {new:List D} {A B:List (List D)} (ha:∀ r∈A,keyR r<k) (hb:∀ r∈B,k<keyR r) :
  finW new ((A++B).foldl (stepW w k new) ([],true))=A.map (fun r=>sub r 0 w)++B.map (fun r=>sub r 0 w):=by
 rw [List.foldl_append,fold_lt true A [] ha,fold_gt B _ hb]
 simp [finW]
def numsR (w:Nat) (r:List D):List Int:=(List.range w).map fun j=>(gd r j).int
theorem numsR_sub (w:Nat) (r:List D):numsR w (sub r 0 w)=numsR w r:=by
 unfold numsR
 refine List.map_congr_left fun j hj=>?_
 rw [List.mem_range] at hj
 rw [gd_sub r w 0 j hj,Nat.zero_add]
theorem nums_map (w:Nat) (A:List (List D)):(A.map fun r=>sub r 0 w).map (numsR w)=A.map (numsR w):=by
 rw [List.map_map]
 exact List.map_congr_left fun r _=>numsR_sub w r
theorem set_mid (A:List (List D)) (b c:List D) (B:List (List D)):(A++b::B).set A.length c=A++c::B:=by
 rw [List.set_append_right _ _ (Nat.le_refl _),Nat.sub_self]; rfl
theorem take_mid (A B:List (List D)):(A++B).take A.length=A:=by simp
theorem drop_mid (A B:List (List D)):(A++B).drop A.length=B:=by simp
theorem ins_mid (A B:List (List D)) (c:List D):insRows (A++B) A.length c=A++c::B:=by
 unfold insRows; rw [take_mid,drop_mid]
theorem del_mid (A B:List (List D)) (b:List D):delRows (A++b::B) A.length=A++B:=by
 unfold delRows
 rw [take_mid,show A++b::B=(A ++ [b])++B from by simp,show A.length+1=(A ++ [b]).length from by simp,drop_mid]
theorem SoundFn.nums {P:Program} {f:FuncId} {args:List T} {e:TypeId} {w:Nat} {y y':D} (hrow:rowOf P e=some (List.replicate w (.int .i64))) (hl:y.rows.map (numsR w)=y'.rows.map (numsR w)) (h:SoundFn P f args ⟨.one (.c (.own (0,0) true e)),[y]⟩):SoundFn P f args ⟨.one (.c (.own (0,0) true e)),[y']⟩:=by
 have h:=h.n rfl
 refine SoundFn.of rfl ⟨h.1,fun w0 prot vs ha hf=>(h.2 w0 prot vs ha hf).mono ?_⟩
 rintro ex w' ⟨v,g',rfl,hR⟩
 have hlen:y.rows.length=y'.rows.length:=by simpa using congrArg List.length hl
 refine ⟨v,g',rfl,hR.below,?_,hR.prot,hR.fresh⟩
 obtain ⟨row,hr,ho⟩:=hR.val
 rw [hrow] at hr; injection hr with hr; subst hr
 refine ⟨_,hrow,?_⟩
 have ho:OwnV P w' g' w0.heap.size (0,0) true e (List.replicate w (.int .i64)) y.rows v:=ho
 show OwnV P w' g' w0.heap.size (0,0) true e (List.replicate w (.int .i64)) y'.rows v
 rcases ho with ⟨h0,h1,h2⟩ | ⟨cap,arr,E,h1,h2,h3,h4,h5,h6,h7,h8,h9,h10,h11⟩
 ·refine .inl ⟨List.eq_nil_of_length_eq_zero (by rw [← hlen,h0]; rfl),h1,h2⟩
 ·refine .inr ⟨cap,arr,E,by rw [← hlen]; exact h1,by rw [← hlen]; exact h2,h3,h4,h5,h6,h7,by rw [← hlen]; exact h8,h9,h10,fun i j s hi hs=>?_⟩
  rw [← hlen] at hi
  obtain ⟨u,k1,k2⟩:=h11 i j s hi hs
  refine ⟨u,k1,?_⟩
  obtain ⟨hj,hs'⟩:=List.getElem?_eq_some_iff.1 hs
  have hs':S.int .i64=s:=by simpa using hs'
  subst hs'
  have hj:j<w:=by simpa using hj
  have he:numsR w (y.rows.getD i [])=numsR w (y'.rows.getD i []):=by
   have h1:(y.rows.map (numsR w))[i]?=(y'.rows.map (numsR w))[i]?:=by rw [hl]
   rw [List.getElem?_map,List.getElem?_map,List.getElem?_eq_getElem hi,List.getElem?_eq_getElem (by omega)] at h1
   rw [List.getD_eq_getElem?_getD,List.getD_eq_getElem?_getD,List.getElem?_eq_getElem hi,List.getElem?_eq_getElem (by omega)]
   simpa using h1
  have he:(gd (y.rows.getD i []) j).int=(gd (y'.rows.getD i []) j).int:=by
   have h2:(numsR w (y.rows.getD i []))[j]?=(numsR w (y'.rows.getD i []))[j]?:=by rw [he]
   simpa [numsR,List.getElem?_range hj] using h2
  have:=vd_int (k:=.i64) k2
  rw [this,he]
  exact .int .i64 _
end Go.Proofs.YthbbbhpjkgpdcaaGreat
namespace Go.Proofs.YthbbbhpjkgpdcaaGreat
set_option maxRecDepth 4096
set_option maxHeartbeats 1000000
def deepE (ds:List Nat):Ent:=(deepId,fun args=>match args with
 | [t]=>bif ds.contains (gd t.p 0).int.toNat then some (T.none_,false) else none
 | _=>none)
theorem deepE_ok {P:Program} (ds:List Nat):EntOk P (deepE ds):=by
 intro args r h
 unfold deepE at h
 simp only at h
 split at h
 ·rename_i t
  cases hc:ds.contains (gd t.p 0).int.toNat <;> rw [hc] at h <;> cases h
 ·cases h
def apartE:Ent:=(apartId,fun _=>some (T.none_,false))
theorem apartE_ok {P:Program}:EntOk P apartE:=by
 intro args r h
 unfold apartE at h
 cases h
theorem apart_ok {P:Program}:EntOk P apartE:=apartE_ok
noncomputable def toCellSdL (N:Nat) (p:List D):List D→Out:=loopOf Tryz.prog (find [toCellE]) N [0,2,3,4,11] Tryz.f117 (.one (.c (.own (0,0) true 148))) [⟨sd (.sl 179),p⟩] 0
theorem toCellSd_rd (p:List D) (N:Nat) (z x2:D) (rows:List (List D)) (k:Int):toCellSdL N p [z,x2,.l rows,.i k]=bif decide (k<z.rows.length) then nd (inRange k z.rows.length) (nd (okCell (sub (z.rows.getD k.toNat []) 0 2)) (nd (inRange k rows.length) (nx [z,x2,.l (rows.set k.toNat (cpCell (sub (z.rows.getD k.toNat []) 0 2))),.i (w64 (k+1))]))) else ex 0 [z,x2,.l rows,.i k]:=by kernel_rfl
theorem toCellSd_ev (p:List D) (N:Nat):evFn Tryz.prog (find [toCellE]) N [0,2,3,4,11] Tryz.f117 (.one (.c (.own (0,0) true 148))) [⟨sd (.sl 179),p⟩]=some (bo,nd (decide (0≤((gd p 0).rows.length:Int))&&decide (((gd p 0).rows.length:Int)=((gd p 0).rows.length:Int))&&decide (((gd p 0).rows.length:Int)≤4294967296)&&true&&true)
  (let o:=iter (toCellSdL N p) N [gd p 0,.l [],.l (List.replicate (gd p 0).rows.length [.i 0,.i 0]),.i 0]
   nd o.isSome (nd (o.code==2) (some (1,[gd o.pay 2]))))):=by kernel_rfl
def toCellSdE:Ent:=(117,e1 (sd (.sl 179)) fun p=>(⟨.one (.c (.own (0,0) true 148)),[cpCellS (gd p 0)]⟩,okCellS (gd p 0)))
theorem toCellSd_ok:EntOk Tryz.prog toCellSdE:=e1_ok fun p h=>evFn_sound (N:=(gd p 0).rows.length+1) (ks:= [0,2,3,4,11]) (key:=bo) (find_ok (fC ⟨toCell_ok,fN⟩)) (enters Tryz.func117) Tryz.func117 fun hw=>by
 have h:okCellS (gd p 0)=true:=h
 simp only [okCellS,Bool.and_eq_true,decide_eq_true_eq,List.all_eq_true] at h
 rw [toCellSd_ev,fill_loop (ok:=fun r=>okCell (sub r 0 2)) (f:=fun r=>cpCell (sub r 0 2)) [.i 0,.i 0] (wt_sl (hw ⟨sd (.sl 179),p⟩ (by simp))) h.2 (toCellSd_rd p _ _ _) (by omega)]
 rw [show decide (((gd p 0).rows.length:Int)≤4294967296)=true from decide_eq_true (by omega),show decide (0≤((gd p 0).rows.length:Int))=true from decide_eq_true (by omega),decide_eq_true (rfl:((gd p 0).rows.length:Int)=_)]
 rfl
end Go.Proofs.YthbbbhpjkgpdcaaGreat
