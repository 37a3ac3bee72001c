/-
 Texts of the proof,put together: part 5.
-/
import Derived.Test.YtpdfmcmnjikppaaGreatSP1
import Derived.Test.YtpdfmcmnjikppaaGreatSP2
import Derived.Test.YtpdfmcmnjikppaaGreatSP3
import Derived.Test.YtpdfmcmnjikppaaGreatSP4
import Derived.Shelf.Sort.Plain
import Derived.Shelf.Slices.In.SortNone
import Derived.Shelf.Slices.CompactI
import Derived.Shelf.Slices.Clone
import Derived.Shelf.Spec.SlicesGrow
import Derived.Test.YtpdfmcmnjikppaaGreatProg
import Derived.Lib.SlicesCompact
import Derived.Lib.RowBridge
set_option linter.unusedSimpArgs false
set_option linter.unusedVariables false
set_option linter.unusedSectionVars false
namespace Go.Proofs.YtpdfmcmnjikppaaGreat
set_option maxRecDepth 4096
set_option maxHeartbeats 1000000
abbrev s_ShardOkT:FuncId→List T→Option (T × Bool):=find [s_l1InE,s_RangesOkE,s_StoreOkE,s_LocksOkE,s_l13TxsE,s_RangesHaveE,s_l10OneE,s_l12RangeE,s_l12HasE,s_l13HeldsOkE,s_l13NewE]
theorem s_ShardOkT_ok:CallOk Tryz.prog s_ShardOkT:=find_ok (fC ⟨s_l1In_ok,fC ⟨s_RangesOk_ok,fC ⟨s_StoreOk_ok,fC ⟨s_LocksOk_ok,fC ⟨s_l13Txs_ok,fC ⟨s_RangesHave_ok,fC ⟨s_l10One_ok,fC ⟨s_l12Range_ok,fC ⟨s_l12Has_ok,fC ⟨s_l13HeldsOk_ok,fC ⟨s_l13New_ok,fN⟩⟩⟩⟩⟩⟩⟩⟩⟩⟩⟩)
abbrev s_ShardOkK:List Nat:= [0,1,2,3,4,5,6,7,41,69,74,85,90,103,108,135,140,150,1000041,1000069,1000074,1000085,1000090,1000103,1000108,1000135,1000140,1000150]
noncomputable def s_ShardOkL0 (N:Nat) (p:List D):List D→Out:=loopOf Tryz.prog s_ShardOkT N s_ShardOkK Tryz.f91 rb [⟨ag rIShard,p⟩] 0
noncomputable def s_ShardOkL2 (N:Nat) (p:List D):List D→Out:=loopOf Tryz.prog s_ShardOkT N s_ShardOkK Tryz.f91 rb [⟨ag rIShard,p⟩] 2
noncomputable def s_ShardOkL4 (N:Nat) (p:List D):List D→Out:=loopOf Tryz.prog s_ShardOkT N s_ShardOkK Tryz.f91 rb [⟨ag rIShard,p⟩] 4
noncomputable def s_ShardOkL6 (N:Nat) (p:List D):List D→Out:=loopOf Tryz.prog s_ShardOkT N s_ShardOkK Tryz.f91 rb [⟨ag rIShard,p⟩] 6
theorem s_ShardOkR0 (N:Nat) (p:List D) (x0 x1 x2 x3 x4 x5 x6 x7 x8 x9 x10 x11 x12 x13 x14 x15 x16 x17 x18 x19 x20:D):(s_ShardOkL0 N p) [x0,x1,x2,x3,x4,x5,x6,x7,x8,x9,x10,x11,x12,x13,x14,x15,x16,x17,x18,x19,x20] =
 bif ltI x11.int (x14.rows.length:Int) then nd (inRange x11.int x14.rows.length) (bif !(rangesHave x13 (sub (x14.rows.getD x11.int.toNat []) 0 2)) then ob false
 else nx [x0,x1,x2,x3,x4,x5,x6,x7,x8,x9,x10,.i (w64 (x11.int+1)),x12,x13,x14,x15,x16,x17,x18,x19,x20])
 else ex 0 [x0,x1,x2,x3,x4,x5,x6,x7,x8,x9,x10,x11,x12,x13,x14,x15,x16,x17,x18,x19,x20]:=by kernel_rfl
theorem s_ShardOkR2 (N:Nat) (p:List D) (x0 x1 x2 x3 x4 x5 x6 x7 x8 x9 x10 x11 x12 x13 x14 x15 x16 x17 x18 x19 x20 x21:D):(s_ShardOkL2 N p) [x0,x1,x2,x3,x4,x5,x6,x7,x8,x9,x10,x11,x12,x13,x14,x15,x16,x17,x18,x19,x20,x21] =
 bif ltI x12.int (x16.rows.length:Int) then nd (inRange x12.int x16.rows.length) (bif !(rangesHave x14 [(gd (x16.rows.getD x12.int.toNat []) 0),.i (w64 ((gd (x16.rows.getD x12.int.toNat []) 0).int+1))]) then ob false
 else nx [x0,x1,x2,x3,x4,x5,x6,x7,x8,x9,x10,x11,.i (w64 (x12.int+1)),x13,x14,x15,x16,x17,x18,x19,x20,x21])
 else ex 2 [x0,x1,x2,x3,x4,x5,x6,x7,x8,x9,x10,x11,x12,x13,x14,x15,x16,x17,x18,x19,x20,x21]:=by kernel_rfl
theorem s_ShardOkR4 (N:Nat) (p:List D) (x0 x1 x2 x3 x4 x5 x6 x7 x8 x9 x10 x11 x12 x13 x14 x15 x16 x17 x18 x19 x20 x21 x22:D):(s_ShardOkL4 N p) [x0,x1,x2,x3,x4,x5,x6,x7,x8,x9,x10,x11,x12,x13,x14,x15,x16,x17,x18,x19,x20,x21,x22] =
 bif ltI x13.int (x18.rows.length:Int) then nd (inRange x13.int x18.rows.length) (bif !(rangesHave x15 [(gd (x18.rows.getD x13.int.toNat []) 1),(gd (x18.rows.getD x13.int.toNat []) 2)]) then ob false
 else bif hasInt x20 (gd (x18.rows.getD x13.int.toNat []) 0).int then ob false
 else bif hasInt x21 (gd (x18.rows.getD x13.int.toNat []) 0).int then ob false
 else nx [x0,x1,x2,x3,x4,x5,x6,x7,x8,x9,x10,x11,x12,.i (w64 (x13.int+1)),x14,x15,x16,x17,x18,x19,x20,x21,x22])
 else ex 4 [x0,x1,x2,x3,x4,x5,x6,x7,x8,x9,x10,x11,x12,x13,x14,x15,x16,x17,x18,x19,x20,x21,x22]:=by kernel_rfl
theorem s_ShardOkR6 (N:Nat) (p:List D) (x0 x1 x2 x3 x4 x5 x6 x7 x8 x9 x10 x11 x12 x13 x14 x15 x16 x17 x18 x19 x20 x21 x22 x23:D):(s_ShardOkL6 N p) [x0,x1,x2,x3,x4,x5,x6,x7,x8,x9,x10,x11,x12,x13,x14,x15,x16,x17,x18,x19,x20,x21,x22,x23] =
 bif ltI x14.int (x21.rows.length:Int) then nd (inRange x14.int x21.rows.length) (bif hasInt x22 (gd (x21.rows.getD x14.int.toNat []) 0).int then ob false
 else nx [x0,x1,x2,x3,x4,x5,x6,x7,x8,x9,x10,x11,x12,x13,.i (w64 (x14.int+1)),x15,x16,x17,x18,x19,x20,x21,x22,x23])
 else ex 6 [x0,x1,x2,x3,x4,x5,x6,x7,x8,x9,x10,x11,x12,x13,x14,x15,x16,x17,x18,x19,x20,x21,x22,x23]:=by kernel_rfl
noncomputable def s_ShardOks0 (N:Nat) (p:List D) (o6:Out):Out:=nd (leI ((gd o6.pay 20).rows.length:Int) 1000000000) (ob (leI (w64 (((gd o6.pay 18).rows.length:Int)+(newSum (gd o6.pay 18) (gd o6.pay 20) (gd o6.pay 20).rows.length))) 60))
noncomputable def s_ShardOks1 (N:Nat) (p:List D) (o6:Out):Out:=bif o6.code==1 then some (1,o6.pay) else nd (o6.code==8) (bif heldsOkS (sub o6.pay 15 9) then (s_ShardOks0 N p o6) else ob false)
noncomputable def s_ShardOks2 (N:Nat) (p:List D) (o4:Out):Out:=let o6:Out:=iter (s_ShardOkL6 N p) N [gd o4.pay 0,gd o4.pay 1,gd o4.pay 2,gd o4.pay 3,gd o4.pay 4,gd o4.pay 5,gd o4.pay 6,gd o4.pay 7,gd o4.pay 8,gd o4.pay 9,gd o4.pay 10,gd o4.pay 11,gd o4.pay 12,gd o4.pay 13,.i 0,gd o4.pay 14,gd o4.pay 15,gd o4.pay 16,gd o4.pay 17,gd o4.pay 18,gd o4.pay 19,gd o4.pay 20,gd o4.pay 21,gd o4.pay 22]; nd o6.isSome (s_ShardOks1 N p o6)
noncomputable def s_ShardOks3 (N:Nat) (p:List D) (o2:Out):Out:=let o4:Out:=iter (s_ShardOkL4 N p) N [gd o2.pay 0,gd o2.pay 1,gd o2.pay 2,gd o2.pay 3,gd o2.pay 4,gd o2.pay 5,gd o2.pay 6,gd o2.pay 7,gd o2.pay 8,gd o2.pay 9,gd o2.pay 10,gd o2.pay 11,gd o2.pay 12,.i 0,gd o2.pay 13,gd o2.pay 14,gd o2.pay 15,gd o2.pay 16,gd o2.pay 17,gd o2.pay 18,gd o2.pay 19,gd o2.pay 20,gd o2.pay 21]; nd o4.isSome (bif o4.code==1 then some (1,o4.pay) else nd (o4.code==6) (s_ShardOks2 N p o4))
noncomputable def s_ShardOks4 (N:Nat) (p:List D) (o0:Out):Out:=let o2:Out:=iter (s_ShardOkL2 N p) N [gd o0.pay 0,gd o0.pay 1,gd o0.pay 2,gd o0.pay 3,gd o0.pay 4,gd o0.pay 5,gd o0.pay 6,gd o0.pay 7,gd o0.pay 8,gd o0.pay 9,gd o0.pay 10,gd o0.pay 11,.i 0,gd o0.pay 12,gd o0.pay 13,gd o0.pay 14,gd o0.pay 15,gd o0.pay 16,gd o0.pay 17,gd o0.pay 18,gd o0.pay 19,gd o0.pay 20]; nd o2.isSome (bif o2.code==1 then some (1,o2.pay) else nd (o2.code==4) (s_ShardOks3 N p o2))
noncomputable def s_ShardOks5 (N:Nat) (p:List D):Out:=let o0:Out:=iter (s_ShardOkL0 N p) N [gd p 0,gd p 1,gd p 2,gd p 3,gd p 4,gd p 5,gd p 6,gd p 7,gd p 8,.i 0,.i 0,.i 0,gd p 0,gd p 1,gd p 2,gd p 3,gd p 4,gd p 5,gd p 6,gd p 7,gd p 8]; nd o0.isSome (bif o0.code==1 then some (1,o0.pay) else nd (o0.code==2) (s_ShardOks4 N p o0))
noncomputable def s_ShardOks6 (N:Nat) (p:List D):Out:=bif ltI 60 ((gd p 7).rows.length:Int) then ob false else bif !(ascOk (gd p 6)) then ob false else bif !(ascOk (gd p 7)) then ob false else (s_ShardOks5 N p)
noncomputable def s_ShardOks7 (N:Nat) (p:List D):Out:=bif ltI 60 ((gd p 5).rows.length:Int) then ob false else bif ltI 60 ((gd p 6).rows.length:Int) then ob false else (s_ShardOks6 N p)
noncomputable def s_ShardOks8 (N:Nat) (p:List D):Out:=bif !(locksOk (gd p 4)) then ob false else bif !(inB (gd p 8).int 0 1000000) then ob false else (s_ShardOks7 N p)
noncomputable def s_ShardOks9 (N:Nat) (p:List D):Out:=bif !(rangesOk (gd p 2)) then ob false else bif !(storeOk (gd p 3)) then ob false else (s_ShardOks8 N p)
noncomputable def s_ShardOks10 (N:Nat) (p:List D):Out:=bif !(inB (gd p 0).int 0 3) then ob false else bif !(rangesOk (gd p 1)) then ob false else (s_ShardOks9 N p)
theorem s_ShardOk_ev (N:Nat) (p:List D):evFn Tryz.prog s_ShardOkT N s_ShardOkK Tryz.f91 rb [⟨ag rIShard,p⟩]=some (bo,(s_ShardOks10 N p)):=by kernel_rfl
def shardC0 (p:List D) (k:Nat):Bool:=rangesHave (gd p 1) (sub ((gd p 2).rows.getD k []) 0 2)
def shardC2 (p:List D) (k:Nat):Bool:=rangesHave (gd p 1) [gd ((gd p 3).rows.getD k []) 0,.i (w64 ((gd ((gd p 3).rows.getD k []) 0).int+1))]
def shardC4 (p:List D) (k:Nat):Bool:=(rangesHave (gd p 1) [gd ((gd p 4).rows.getD k []) 1,gd ((gd p 4).rows.getD k []) 2]&&(!hasInt (gd p 6) (gd ((gd p 4).rows.getD k []) 0).int && !hasInt (gd p 7) (gd ((gd p 4).rows.getD k []) 0).int))
def shardC6 (p:List D) (k:Nat):Bool:= !hasInt (gd p 7) (gd ((gd p 6).rows.getD k []) 0).int
def shardA (p:List D) (f j:Nat) (C:List D→Nat→Bool):Bool:=(List.range (gd p f).rows.length).all (C p)
def shardSum (p:List D):Bool:=heldsOkS p&&leI (((gd p 3).rows.length:Int)+newSum (gd p 3) (gd p 5) (gd p 5).rows.length) 60
def shardOk (p:List D):Bool:=inB (gd p 0).int 0 3&&(rangesOk (gd p 1)&&(rangesOk (gd p 2)&&(storeOk (gd p 3)&&(locksOk (gd p 4)&&(inB (gd p 8).int 0 1000000&&(leI ((gd p 5).rows.length:Int) 60&&(leI ((gd p 6).rows.length:Int) 60&&(leI ((gd p 7).rows.length:Int) 60&&(ascOk (gd p 6)&&(ascOk (gd p 7)&&(shardA p 2 0 shardC0&&(shardA p 3 2 shardC2&&(shardA p 4 4 shardC4&&(shardA p 6 6 shardC6&&(shardSum p)))))))))))))))
theorem s_ShardOkI0 (p:List D) (N:Nat) (hN:(gd p 2).rows.length<N) (hl:(gd p 2).rows.length≤9223372036854775807):iter (s_ShardOkL0 N p) N [gd p 0,gd p 1,gd p 2,gd p 3,gd p 4,gd p 5,gd p 6,gd p 7,gd p 8,.i 0,.i 0,.i 0,gd p 0,gd p 1,gd p 2,gd p 3,gd p 4,gd p 5,gd p 6,gd p 7,gd p 8]=some (bif shardA p 2 0 shardC0 then (2,[gd p 0,gd p 1,gd p 2,gd p 3,gd p 4,gd p 5,gd p 6,gd p 7,gd p 8,.i 0,.i 0,.i ((gd p 2).rows.length:Int),gd p 0,gd p 1,gd p 2,gd p 3,gd p 4,gd p 5,gd p 6,gd p 7,gd p 8]) else (1,[.b false])):=by
 have e:=for_loop (L:=s_ShardOkL0 N p) (fun k => [gd p 0,gd p 1,gd p 2,gd p 3,gd p 4,gd p 5,gd p 6,gd p 7,gd p 8,.i 0,.i 0,.i (k:Int),gd p 0,gd p 1,gd p 2,gd p 3,gd p 4,gd p 5,gd p 6,gd p 7,gd p 8]) (gd p 2).rows.length (shardC0 p) [.b false] 0 (fun k hk=>?_) ?_ (N:=N) hN
 ·simp only [Int.natCast_zero] at e
  exact e
 ·show s_ShardOkL0 _ p [_,_,_,_,_,_,_,_,_,_,_,.i (k:Int),_,_,_,_,_,_,_,_,_]=_
  rw [s_ShardOkR0]
  simp only [int_i,c_lt hk,nd_ix hk,w64_succ hk hl,Int.toNat_natCast]
  unfold shardC0
  cases rangesHave (gd p 1) (sub ((gd p 2).rows.getD k []) 0 2) <;> rfl
 ·show s_ShardOkL0 _ p [_,_,_,_,_,_,_,_,_,_,_,.i ((gd p 2).rows.length:Int),_,_,_,_,_,_,_,_,_]=_
  rw [s_ShardOkR0]
  simp only [int_i,c_nlt]
theorem s_ShardOkI2 (p:List D) (N:Nat) (hN:(gd p 3).rows.length<N) (hl:(gd p 3).rows.length≤9223372036854775807):iter (s_ShardOkL2 N p) N [gd p 0,gd p 1,gd p 2,gd p 3,gd p 4,gd p 5,gd p 6,gd p 7,gd p 8,.i 0,.i 0,.i ((gd p 2).rows.length:Int),.i 0,gd p 0,gd p 1,gd p 2,gd p 3,gd p 4,gd p 5,gd p 6,gd p 7,gd p 8]=some (bif shardA p 3 2 shardC2 then (4,[gd p 0,gd p 1,gd p 2,gd p 3,gd p 4,gd p 5,gd p 6,gd p 7,gd p 8,.i 0,.i 0,.i ((gd p 2).rows.length:Int),.i ((gd p 3).rows.length:Int),gd p 0,gd p 1,gd p 2,gd p 3,gd p 4,gd p 5,gd p 6,gd p 7,gd p 8]) else (1,[.b false])):=by
 have e:=for_loop (L:=s_ShardOkL2 N p) (fun k => [gd p 0,gd p 1,gd p 2,gd p 3,gd p 4,gd p 5,gd p 6,gd p 7,gd p 8,.i 0,.i 0,.i ((gd p 2).rows.length:Int),.i (k:Int),gd p 0,gd p 1,gd p 2,gd p 3,gd p 4,gd p 5,gd p 6,gd p 7,gd p 8]) (gd p 3).rows.length (shardC2 p) [.b false] 2 (fun k hk=>?_) ?_ (N:=N) hN
 ·simp only [Int.natCast_zero] at e
  exact e
 ·show s_ShardOkL2 _ p [_,_,_,_,_,_,_,_,_,_,_,_,.i (k:Int),_,_,_,_,_,_,_,_,_]=_
  rw [s_ShardOkR2]
  simp only [int_i,c_lt hk,nd_ix hk,w64_succ hk hl,Int.toNat_natCast]
  unfold shardC2
  cases rangesHave (gd p 1) [gd ((gd p 3).rows.getD k []) 0,.i (w64 ((gd ((gd p 3).rows.getD k []) 0).int+1))] <;> rfl
 ·show s_ShardOkL2 _ p [_,_,_,_,_,_,_,_,_,_,_,_,.i ((gd p 3).rows.length:Int),_,_,_,_,_,_,_,_,_]=_
  rw [s_ShardOkR2]
  simp only [int_i,c_nlt]
theorem s_ShardOkI4 (p:List D) (N:Nat) (hN:(gd p 4).rows.length<N) (hl:(gd p 4).rows.length≤9223372036854775807):iter (s_ShardOkL4 N p) N [gd p 0,gd p 1,gd p 2,gd p 3,gd p 4,gd p 5,gd p 6,gd p 7,gd p 8,.i 0,.i 0,.i ((gd p 2).rows.length:Int),.i ((gd p 3).rows.length:Int),.i 0,gd p 0,gd p 1,gd p 2,gd p 3,gd p 4,gd p 5,gd p 6,gd p 7,gd p 8]=some (bif shardA p 4 4 shardC4 then (6,[gd p 0,gd p 1,gd p 2,gd p 3,gd p 4,gd p 5,gd p 6,gd p 7,gd p 8,.i 0,.i 0,.i ((gd p 2).rows.length:Int),.i ((gd p 3).rows.length:Int),.i ((gd p 4).rows.length:Int),gd p 0,gd p 1,gd p 2,gd p 3,gd p 4,gd p 5,gd p 6,gd p 7,gd p 8]) else (1,[.b false])):=by
 have e:=for_loop (L:=s_ShardOkL4 N p) (fun k => [gd p 0,gd p 1,gd p 2,gd p 3,gd p 4,gd p 5,gd p 6,gd p 7,gd p 8,.i 0,.i 0,.i ((gd p 2).rows.length:Int),.i ((gd p 3).rows.length:Int),.i (k:Int),gd p 0,gd p 1,gd p 2,gd p 3,gd p 4,gd p 5,gd p 6,gd p 7,gd p 8]) (gd p 4).rows.length (shardC4 p) [.b false] 4 (fun k hk=>?_) ?_ (N:=N) hN
 ·simp only [Int.natCast_zero] at e
  exact e
 ·show s_ShardOkL4 _ p [_,_,_,_,_,_,_,_,_,_,_,_,_,.i (k:Int),_,_,_,_,_,_,_,_,_]=_
  rw [s_ShardOkR4]
  simp only [int_i,c_lt hk,nd_ix hk,w64_succ hk hl,Int.toNat_natCast]
  unfold shardC4
  cases rangesHave (gd p 1) [gd ((gd p 4).rows.getD k []) 1,gd ((gd p 4).rows.getD k []) 2] <;> cases hasInt (gd p 6) (gd ((gd p 4).rows.getD k []) 0).int <;> cases hasInt (gd p 7) (gd ((gd p 4).rows.getD k []) 0).int <;> rfl
 ·show s_ShardOkL4 _ p [_,_,_,_,_,_,_,_,_,_,_,_,_,.i ((gd p 4).rows.length:Int),_,_,_,_,_,_,_,_,_]=_
  rw [s_ShardOkR4]
  simp only [int_i,c_nlt]
theorem s_ShardOkI6 (p:List D) (N:Nat) (hN:(gd p 6).rows.length<N) (hl:(gd p 6).rows.length≤9223372036854775807):iter (s_ShardOkL6 N p) N [gd p 0,gd p 1,gd p 2,gd p 3,gd p 4,gd p 5,gd p 6,gd p 7,gd p 8,.i 0,.i 0,.i ((gd p 2).rows.length:Int),.i ((gd p 3).rows.length:Int),.i ((gd p 4).rows.length:Int),.i 0,gd p 0,gd p 1,gd p 2,gd p 3,gd p 4,gd p 5,gd p 6,gd p 7,gd p 8]=some (bif shardA p 6 6 shardC6 then (8,[gd p 0,gd p 1,gd p 2,gd p 3,gd p 4,gd p 5,gd p 6,gd p 7,gd p 8,.i 0,.i 0,.i ((gd p 2).rows.length:Int),.i ((gd p 3).rows.length:Int),.i ((gd p 4).rows.length:Int),.i ((gd p 6).rows.length:Int),gd p 0,gd p 1,gd p 2,gd p 3,gd p 4,gd p 5,gd p 6,gd p 7,gd p 8]) else (1,[.b false])):=by
 have e:=for_loop (L:=s_ShardOkL6 N p) (fun k => [gd p 0,gd p 1,gd p 2,gd p 3,gd p 4,gd p 5,gd p 6,gd p 7,gd p 8,.i 0,.i 0,.i ((gd p 2).rows.length:Int),.i ((gd p 3).rows.length:Int),.i ((gd p 4).rows.length:Int),.i (k:Int),gd p 0,gd p 1,gd p 2,gd p 3,gd p 4,gd p 5,gd p 6,gd p 7,gd p 8]) (gd p 6).rows.length (shardC6 p) [.b false] 6 (fun k hk=>?_) ?_ (N:=N) hN
 ·simp only [Int.natCast_zero] at e
  exact e
 ·show s_ShardOkL6 _ p [_,_,_,_,_,_,_,_,_,_,_,_,_,_,.i (k:Int),_,_,_,_,_,_,_,_,_]=_
  rw [s_ShardOkR6]
  simp only [int_i,c_lt hk,nd_ix hk,w64_succ hk hl,Int.toNat_natCast]
  unfold shardC6
  cases hasInt (gd p 7) (gd ((gd p 6).rows.getD k []) 0).int <;> rfl
 ·show s_ShardOkL6 _ p [_,_,_,_,_,_,_,_,_,_,_,_,_,_,.i ((gd p 6).rows.length:Int),_,_,_,_,_,_,_,_,_]=_
  rw [s_ShardOkR6]
  simp only [int_i,c_nlt]
theorem lt60 (n:Nat):ltI 60 (n:Int) = !leI (n:Int) 60:=by
 rw [Bool.eq_iff_iff]; simp only [ltI,leI,decide_eq_true_eq,Bool.not_eq_true',decide_eq_false_iff_not]; omega
theorem s_ShardOkx1 (p:List D) (N:Nat) (h5:leI ((gd p 5).rows.length:Int) 60=true) (h3:storeOk (gd p 3)=true):s_ShardOks1 N p (some (8,[gd p 0,gd p 1,gd p 2,gd p 3,gd p 4,gd p 5,gd p 6,gd p 7,gd p 8,.i 0,.i 0,.i ((gd p 2).rows.length:Int),.i ((gd p 3).rows.length:Int),.i ((gd p 4).rows.length:Int),.i ((gd p 6).rows.length:Int),gd p 0,gd p 1,gd p 2,gd p 3,gd p 4,gd p 5,gd p 6,gd p 7,gd p 8]))=ob (shardSum p):=by
 simp only [leI,decide_eq_true_eq] at h5
 have hs:=(store_sorted h3).len
 have hn:=newSum_in (gd p 3) (gd p 5) (gd p 5).rows.length
 rw [show s_ShardOks1 N p (some (8,[gd p 0,gd p 1,gd p 2,gd p 3,gd p 4,gd p 5,gd p 6,gd p 7,gd p 8,.i 0,.i 0,.i ((gd p 2).rows.length:Int),.i ((gd p 3).rows.length:Int),.i ((gd p 4).rows.length:Int),.i ((gd p 6).rows.length:Int),gd p 0,gd p 1,gd p 2,gd p 3,gd p 4,gd p 5,gd p 6,gd p 7,gd p 8]))=(bif heldsOkS p then nd (leI ((gd p 5).rows.length:Int) 1000000000) (ob (leI (w64 (((gd p 3).rows.length:Int)+newSum (gd p 3) (gd p 5) (gd p 5).rows.length)) 60)) else ob false) from by kernel_rfl]
 rw [leI_t (show ((gd p 5).rows.length:Int)≤1000000000 from by omega),nd_true,w64_id (by omega) (by omega)]
 unfold shardSum
 cases heldsOkS p <;> rfl
theorem s_ShardOkx2 (p:List D) (N:Nat) (hN:((gd p 2).rows.length+(gd p 3).rows.length+(gd p 4).rows.length+(gd p 6).rows.length+1)≤N) (hl:∀ j,j ∈ [2,3,4,6]→(gd p j).rows.length≤9223372036854775807) (h5:leI ((gd p 5).rows.length:Int) 60=true) (h3:storeOk (gd p 3)=true):s_ShardOks2 N p (some (6,[gd p 0,gd p 1,gd p 2,gd p 3,gd p 4,gd p 5,gd p 6,gd p 7,gd p 8,.i 0,.i 0,.i ((gd p 2).rows.length:Int),.i ((gd p 3).rows.length:Int),.i ((gd p 4).rows.length:Int),gd p 0,gd p 1,gd p 2,gd p 3,gd p 4,gd p 5,gd p 6,gd p 7,gd p 8]))=ob (shardA p 6 6 shardC6&&(shardSum p)):=by
 rw [show s_ShardOks2 N p (some (6,[gd p 0,gd p 1,gd p 2,gd p 3,gd p 4,gd p 5,gd p 6,gd p 7,gd p 8,.i 0,.i 0,.i ((gd p 2).rows.length:Int),.i ((gd p 3).rows.length:Int),.i ((gd p 4).rows.length:Int),gd p 0,gd p 1,gd p 2,gd p 3,gd p 4,gd p 5,gd p 6,gd p 7,gd p 8]))=nd (iter (s_ShardOkL6 N p) N [gd p 0,gd p 1,gd p 2,gd p 3,gd p 4,gd p 5,gd p 6,gd p 7,gd p 8,.i 0,.i 0,.i ((gd p 2).rows.length:Int),.i ((gd p 3).rows.length:Int),.i ((gd p 4).rows.length:Int),.i 0,gd p 0,gd p 1,gd p 2,gd p 3,gd p 4,gd p 5,gd p 6,gd p 7,gd p 8]).isSome (s_ShardOks1 N p (iter (s_ShardOkL6 N p) N [gd p 0,gd p 1,gd p 2,gd p 3,gd p 4,gd p 5,gd p 6,gd p 7,gd p 8,.i 0,.i 0,.i ((gd p 2).rows.length:Int),.i ((gd p 3).rows.length:Int),.i ((gd p 4).rows.length:Int),.i 0,gd p 0,gd p 1,gd p 2,gd p 3,gd p 4,gd p 5,gd p 6,gd p 7,gd p 8])) from by kernel_rfl]
 rw [s_ShardOkI6 p N (by omega) (hl 6 (by simp))]
 cases shardA p 6 6 shardC6
 ·rfl
 ·show s_ShardOks1 N p (some (8,[gd p 0,gd p 1,gd p 2,gd p 3,gd p 4,gd p 5,gd p 6,gd p 7,gd p 8,.i 0,.i 0,.i ((gd p 2).rows.length:Int),.i ((gd p 3).rows.length:Int),.i ((gd p 4).rows.length:Int),.i ((gd p 6).rows.length:Int),gd p 0,gd p 1,gd p 2,gd p 3,gd p 4,gd p 5,gd p 6,gd p 7,gd p 8]))=ob (true&&(shardSum p))
  rw [Bool.true_and]
  exact s_ShardOkx1 p N h5 h3
theorem s_ShardOkx3 (p:List D) (N:Nat) (hN:((gd p 2).rows.length+(gd p 3).rows.length+(gd p 4).rows.length+(gd p 6).rows.length+1)≤N) (hl:∀ j,j ∈ [2,3,4,6]→(gd p j).rows.length≤9223372036854775807) (h5:leI ((gd p 5).rows.length:Int) 60=true) (h3:storeOk (gd p 3)=true):s_ShardOks3 N p (some (4,[gd p 0,gd p 1,gd p 2,gd p 3,gd p 4,gd p 5,gd p 6,gd p 7,gd p 8,.i 0,.i 0,.i ((gd p 2).rows.length:Int),.i ((gd p 3).rows.length:Int),gd p 0,gd p 1,gd p 2,gd p 3,gd p 4,gd p 5,gd p 6,gd p 7,gd p 8]))=ob (shardA p 4 4 shardC4&&(shardA p 6 6 shardC6&&(shardSum p))):=by
 rw [show s_ShardOks3 N p (some (4,[gd p 0,gd p 1,gd p 2,gd p 3,gd p 4,gd p 5,gd p 6,gd p 7,gd p 8,.i 0,.i 0,.i ((gd p 2).rows.length:Int),.i ((gd p 3).rows.length:Int),gd p 0,gd p 1,gd p 2,gd p 3,gd p 4,gd p 5,gd p 6,gd p 7,gd p 8]))=nd (iter (s_ShardOkL4 N p) N [gd p 0,gd p 1,gd p 2,gd p 3,gd p 4,gd p 5,gd p 6,gd p 7,gd p 8,.i 0,.i 0,.i ((gd p 2).rows.length:Int),.i ((gd p 3).rows.length:Int),.i 0,gd p 0,gd p 1,gd p 2,gd p 3,gd p 4,gd p 5,gd p 6,gd p 7,gd p 8]).isSome (bif Out.code (iter (s_ShardOkL4 N p) N [gd p 0,gd p 1,gd p 2,gd p 3,gd p 4,gd p 5,gd p 6,gd p 7,gd p 8,.i 0,.i 0,.i ((gd p 2).rows.length:Int),.i ((gd p 3).rows.length:Int),.i 0,gd p 0,gd p 1,gd p 2,gd p 3,gd p 4,gd p 5,gd p 6,gd p 7,gd p 8])==1 then some (1,Out.pay (iter (s_ShardOkL4 N p) N [gd p 0,gd p 1,gd p 2,gd p 3,gd p 4,gd p 5,gd p 6,gd p 7,gd p 8,.i 0,.i 0,.i ((gd p 2).rows.length:Int),.i ((gd p 3).rows.length:Int),.i 0,gd p 0,gd p 1,gd p 2,gd p 3,gd p 4,gd p 5,gd p 6,gd p 7,gd p 8])) else nd (Out.code (iter (s_ShardOkL4 N p) N [gd p 0,gd p 1,gd p 2,gd p 3,gd p 4,gd p 5,gd p 6,gd p 7,gd p 8,.i 0,.i 0,.i ((gd p 2).rows.length:Int),.i ((gd p 3).rows.length:Int),.i 0,gd p 0,gd p 1,gd p 2,gd p 3,gd p 4,gd p 5,gd p 6,gd p 7,gd p 8])==6) (s_ShardOks2 N p (iter (s_ShardOkL4 N p) N [gd p 0,gd p 1,gd p 2,gd p 3,gd p 4,gd p 5,gd p 6,gd p 7,gd p 8,.i 0,.i 0,.i ((gd p 2).rows.length:Int),.i ((gd p 3).rows.length:Int),.i 0,gd p 0,gd p 1,gd p 2,gd p 3,gd p 4,gd p 5,gd p 6,gd p 7,gd p 8]))) from by kernel_rfl]
 rw [s_ShardOkI4 p N (by omega) (hl 4 (by simp))]
 cases shardA p 4 4 shardC4
 ·rfl
 ·show s_ShardOks2 N p (some (6,[gd p 0,gd p 1,gd p 2,gd p 3,gd p 4,gd p 5,gd p 6,gd p 7,gd p 8,.i 0,.i 0,.i ((gd p 2).rows.length:Int),.i ((gd p 3).rows.length:Int),.i ((gd p 4).rows.length:Int),gd p 0,gd p 1,gd p 2,gd p 3,gd p 4,gd p 5,gd p 6,gd p 7,gd p 8]))=ob (true&&(shardA p 6 6 shardC6&&(shardSum p)))
  rw [Bool.true_and]
  exact s_ShardOkx2 p N hN hl h5 h3
theorem s_ShardOkx4 (p:List D) (N:Nat) (hN:((gd p 2).rows.length+(gd p 3).rows.length+(gd p 4).rows.length+(gd p 6).rows.length+1)≤N) (hl:∀ j,j ∈ [2,3,4,6]→(gd p j).rows.length≤9223372036854775807) (h5:leI ((gd p 5).rows.length:Int) 60=true) (h3:storeOk (gd p 3)=true):s_ShardOks4 N p (some (2,[gd p 0,gd p 1,gd p 2,gd p 3,gd p 4,gd p 5,gd p 6,gd p 7,gd p 8,.i 0,.i 0,.i ((gd p 2).rows.length:Int),gd p 0,gd p 1,gd p 2,gd p 3,gd p 4,gd p 5,gd p 6,gd p 7,gd p 8]))=ob (shardA p 3 2 shardC2&&(shardA p 4 4 shardC4&&(shardA p 6 6 shardC6&&(shardSum p)))):=by
 rw [show s_ShardOks4 N p (some (2,[gd p 0,gd p 1,gd p 2,gd p 3,gd p 4,gd p 5,gd p 6,gd p 7,gd p 8,.i 0,.i 0,.i ((gd p 2).rows.length:Int),gd p 0,gd p 1,gd p 2,gd p 3,gd p 4,gd p 5,gd p 6,gd p 7,gd p 8]))=nd (iter (s_ShardOkL2 N p) N [gd p 0,gd p 1,gd p 2,gd p 3,gd p 4,gd p 5,gd p 6,gd p 7,gd p 8,.i 0,.i 0,.i ((gd p 2).rows.length:Int),.i 0,gd p 0,gd p 1,gd p 2,gd p 3,gd p 4,gd p 5,gd p 6,gd p 7,gd p 8]).isSome (bif Out.code (iter (s_ShardOkL2 N p) N [gd p 0,gd p 1,gd p 2,gd p 3,gd p 4,gd p 5,gd p 6,gd p 7,gd p 8,.i 0,.i 0,.i ((gd p 2).rows.length:Int),.i 0,gd p 0,gd p 1,gd p 2,gd p 3,gd p 4,gd p 5,gd p 6,gd p 7,gd p 8])==1 then some (1,Out.pay (iter (s_ShardOkL2 N p) N [gd p 0,gd p 1,gd p 2,gd p 3,gd p 4,gd p 5,gd p 6,gd p 7,gd p 8,.i 0,.i 0,.i ((gd p 2).rows.length:Int),.i 0,gd p 0,gd p 1,gd p 2,gd p 3,gd p 4,gd p 5,gd p 6,gd p 7,gd p 8])) else nd (Out.code (iter (s_ShardOkL2 N p) N [gd p 0,gd p 1,gd p 2,gd p 3,gd p 4,gd p 5,gd p 6,gd p 7,gd p 8,.i 0,.i 0,.i ((gd p 2).rows.length:Int),.i 0,gd p 0,gd p 1,gd p 2,gd p 3,gd p 4,gd p 5,gd p 6,gd p 7,gd p 8])==4) (s_ShardOks3 N p (iter (s_ShardOkL2 N p) N [gd p 0,gd p 1,gd p 2,gd p 3,gd p 4,gd p 5,gd p 6,gd p 7,gd p 8,.i 0,.i 0,.i ((gd p 2).rows.length:Int),.i 0,gd p 0,gd p 1,gd p 2,gd p 3,gd p 4,gd p 5,gd p 6,gd p 7,gd p 8]))) from by kernel_rfl]
 rw [s_ShardOkI2 p N (by omega) (hl 3 (by simp))]
 cases shardA p 3 2 shardC2
 ·rfl
 ·show s_ShardOks3 N p (some (4,[gd p 0,gd p 1,gd p 2,gd p 3,gd p 4,gd p 5,gd p 6,gd p 7,gd p 8,.i 0,.i 0,.i ((gd p 2).rows.length:Int),.i ((gd p 3).rows.length:Int),gd p 0,gd p 1,gd p 2,gd p 3,gd p 4,gd p 5,gd p 6,gd p 7,gd p 8]))=ob (true&&(shardA p 4 4 shardC4&&(shardA p 6 6 shardC6&&(shardSum p))))
  rw [Bool.true_and]
  exact s_ShardOkx3 p N hN hl h5 h3
theorem s_ShardOkx5 (p:List D) (N:Nat) (hN:((gd p 2).rows.length+(gd p 3).rows.length+(gd p 4).rows.length+(gd p 6).rows.length+1)≤N) (hl:∀ j,j ∈ [2,3,4,6]→(gd p j).rows.length≤9223372036854775807) (h5:leI ((gd p 5).rows.length:Int) 60=true) (h3:storeOk (gd p 3)=true):s_ShardOks5 N p=ob (shardA p 2 0 shardC0&&(shardA p 3 2 shardC2&&(shardA p 4 4 shardC4&&(shardA p 6 6 shardC6&&(shardSum p))))):=by
 rw [show s_ShardOks5 N p=nd (iter (s_ShardOkL0 N p) N [gd p 0,gd p 1,gd p 2,gd p 3,gd p 4,gd p 5,gd p 6,gd p 7,gd p 8,.i 0,.i 0,.i 0,gd p 0,gd p 1,gd p 2,gd p 3,gd p 4,gd p 5,gd p 6,gd p 7,gd p 8]).isSome (bif Out.code (iter (s_ShardOkL0 N p) N [gd p 0,gd p 1,gd p 2,gd p 3,gd p 4,gd p 5,gd p 6,gd p 7,gd p 8,.i 0,.i 0,.i 0,gd p 0,gd p 1,gd p 2,gd p 3,gd p 4,gd p 5,gd p 6,gd p 7,gd p 8])==1 then some (1,Out.pay (iter (s_ShardOkL0 N p) N [gd p 0,gd p 1,gd p 2,gd p 3,gd p 4,gd p 5,gd p 6,gd p 7,gd p 8,.i 0,.i 0,.i 0,gd p 0,gd p 1,gd p 2,gd p 3,gd p 4,gd p 5,gd p 6,gd p 7,gd p 8])) else nd (Out.code (iter (s_ShardOkL0 N p) N [gd p 0,gd p 1,gd p 2,gd p 3,gd p 4,gd p 5,gd p 6,gd p 7,gd p 8,.i 0,.i 0,.i 0,gd p 0,gd p 1,gd p 2,gd p 3,gd p 4,gd p 5,gd p 6,gd p 7,gd p 8])==2) (s_ShardOks4 N p (iter (s_ShardOkL0 N p) N [gd p 0,gd p 1,gd p 2,gd p 3,gd p 4,gd p 5,gd p 6,gd p 7,gd p 8,.i 0,.i 0,.i 0,gd p 0,gd p 1,gd p 2,gd p 3,gd p 4,gd p 5,gd p 6,gd p 7,gd p 8]))) from by kernel_rfl]
 rw [s_ShardOkI0 p N (by omega) (hl 2 (by simp))]
 cases shardA p 2 0 shardC0
 ·rfl
 ·show s_ShardOks4 N p (some (2,[gd p 0,gd p 1,gd p 2,gd p 3,gd p 4,gd p 5,gd p 6,gd p 7,gd p 8,.i 0,.i 0,.i ((gd p 2).rows.length:Int),gd p 0,gd p 1,gd p 2,gd p 3,gd p 4,gd p 5,gd p 6,gd p 7,gd p 8]))=ob (true&&(shardA p 3 2 shardC2&&(shardA p 4 4 shardC4&&(shardA p 6 6 shardC6&&(shardSum p)))))
  rw [Bool.true_and]
  exact s_ShardOkx4 p N hN hl h5 h3
theorem ob_step {a g:Bool} {x:Out} (h:a=true→x=ob g):(bif !a then ob false else x)=ob (a&&g):=by
 cases a
 ·rfl
 ·exact h rfl
def s_ShardOkE:Ent:=(91,e1 (ag rIShard) fun p=>(⟨rb,[.b (shardOk p)]⟩,true))
theorem s_ShardOk_ok:EntOk Tryz.prog s_ShardOkE:=e1_ok fun p h=>evFn_sound (N:=((gd p 2).rows.length+(gd p 3).rows.length+(gd p 4).rows.length+(gd p 6).rows.length+1)) (ks:=s_ShardOkK) (key:=bo) s_ShardOkT_ok (enters Tryz.func91) Tryz.func91 fun hw=>by
 rw [s_ShardOk_ev]
 have hl:∀ j,j ∈ [2,3,4,6]→(gd p j).rows.length≤9223372036854775807:=by
  intro j hj
  simp only [List.mem_cons,List.not_mem_nil,or_false] at hj
  rcases hj with rfl | rfl | rfl | rfl <;> exact wt_at (hw ⟨ag rIShard,p⟩ (by simp)) rfl
 refine congrArg (fun x=>some (bo,x)) ?_
 show s_ShardOks10 ((gd p 2).rows.length+(gd p 3).rows.length+(gd p 4).rows.length+(gd p 6).rows.length+1) p=ob (shardOk p)
 unfold s_ShardOks10 s_ShardOks9 s_ShardOks8 s_ShardOks7 s_ShardOks6 shardOk
 simp only [lt60]
 refine ob_step fun _=>?_
 refine ob_step fun _=>?_
 refine ob_step fun _=>?_
 refine ob_step fun h3=>?_
 refine ob_step fun _=>?_
 refine ob_step fun _=>?_
 refine ob_step fun h5=>?_
 refine ob_step fun _=>?_
 refine ob_step fun _=>?_
 refine ob_step fun _=>?_
 refine ob_step fun _=>?_
 exact s_ShardOkx5 p _ (Nat.le_refl _) hl h5 h3
end Go.Proofs.YtpdfmcmnjikppaaGreat
namespace Go.Proofs.YtpdfmcmnjikppaaGreat
set_option maxRecDepth 4096
set_option maxHeartbeats 1000000
end Go.Proofs.YtpdfmcmnjikppaaGreat
namespace Go.Proofs
open Go.Shelf
def Tryz.lays189_ren:Go.Shelf.Ren:=⟨fun | 189=>161 | 125=>236 | 257=>235 | 128=>268 | 129=>269 | 294=>260 | 295=>261 | 296=>262 | 297=>263 | 298=>264 | 299=>265 | 216=>214 | 300=>266 | 301=>267 | 328=>287 | 329=>288 | 330=>289 | 331=>290 | 332=>291 | 215=>255 | 343=>298 | n=>n,fun | 28=>26 | 3=>3 | 46=>187 | 0=>0 | 51=>228 | 53=>230 | 4=>4 | 183=>222 | 182=>221 | 131=>128 | 5=>5 | 9=>9 | 218=>240 | 222=>244 | 228=>249 | 229=>250 | n=>n,fun | n=>n⟩
theorem Tryz.lays189:Go.Proofs.Lays.n189 Tryz.prog Tryz.lays189_ren:={ mixed:=by kernel_rfl,f125:=Tryz.func236.trans (congrArg some (by kernel_rfl)),f128:=Tryz.func268.trans (congrArg some (by kernel_rfl)),f129:=Tryz.func269.trans (congrArg some (by kernel_rfl)),f189:=Tryz.func161.trans (congrArg some (by kernel_rfl)),f215:=Tryz.func255.trans (congrArg some (by kernel_rfl)),f216:=Tryz.func214.trans (congrArg some (by kernel_rfl)),f257:=Tryz.func235.trans (congrArg some (by kernel_rfl)),f294:=Tryz.func260.trans (congrArg some (by kernel_rfl)),f295:=Tryz.func261.trans (congrArg some (by kernel_rfl)),f296:=Tryz.func262.trans (congrArg some (by kernel_rfl)),f297:=Tryz.func263.trans (congrArg some (by kernel_rfl)),f298:=Tryz.func264.trans (congrArg some (by kernel_rfl)),f299:=Tryz.func265.trans (congrArg some (by kernel_rfl)),f300:=Tryz.func266.trans (congrArg some (by kernel_rfl)),f301:=Tryz.func267.trans (congrArg some (by kernel_rfl)),f328:=Tryz.func287.trans (congrArg some (by kernel_rfl)),f329:=Tryz.func288.trans (congrArg some (by kernel_rfl)),f330:=Tryz.func289.trans (congrArg some (by kernel_rfl)),f331:=Tryz.func290.trans (congrArg some (by kernel_rfl)),f332:=Tryz.func291.trans (congrArg some (by kernel_rfl)),f343:=Tryz.func298.trans (congrArg some (by kernel_rfl)),t0:=Tryz.underlying0,a0:=Tryz.isAgg0,z0:=Tryz.sizeOf0,v0:=Tryz.zeroValue0,t3:=Tryz.underlying3,a3:=Tryz.isAgg3,z3:=Tryz.sizeOf3,v3:=Tryz.zeroValue3,t4:=Tryz.underlying4,a4:=Tryz.isAgg4,z4:=Tryz.sizeOf4,v4:=Tryz.zeroValue4,t5:=Tryz.underlying5,a5:=Tryz.isAgg5,z5:=Tryz.sizeOf5,v5:=Tryz.zeroValue5,t9:=Tryz.underlying9,a9:=Tryz.isAgg9,z9:=Tryz.sizeOf9,v9:=Tryz.zeroValue9,t28:=Tryz.underlying26,a28:=Tryz.isAgg26,z28:=Tryz.sizeOf26,v28:=Tryz.zeroValue26,t46:=Tryz.underlying187,a46:=Tryz.isAgg187,z46:=Tryz.sizeOf187,v46:=Tryz.zeroValue187,t51:=Tryz.underlying228,a51:=Tryz.isAgg228,z51:=Tryz.sizeOf228,v51:=Tryz.zeroValue228,t53:=Tryz.underlying230,a53:=Tryz.isAgg230,z53:=Tryz.sizeOf230,v53:=Tryz.zeroValue230,t131:=Tryz.underlying128,a131:=Tryz.isAgg128,z131:=Tryz.sizeOf128,v131:=Tryz.zeroValue128,t182:=Tryz.underlying221,a182:=Tryz.isAgg221,z182:=Tryz.sizeOf221,v182:=Tryz.zeroValue221,t183:=Tryz.underlying222,a183:=Tryz.isAgg222,z183:=Tryz.sizeOf222,v183:=Tryz.zeroValue222,t218:=Tryz.underlying240,a218:=Tryz.isAgg240,z218:=Tryz.sizeOf240,v218:=Tryz.zeroValue240,t222:=Tryz.underlying244,a222:=Tryz.isAgg244,z222:=Tryz.sizeOf244,v222:=Tryz.zeroValue244,t228:=Tryz.underlying249,a228:=Tryz.isAgg249,z228:=Tryz.sizeOf249,v228:=Tryz.zeroValue249,t229:=Tryz.underlying250,a229:=Tryz.isAgg250,z229:=Tryz.sizeOf250,v229:=Tryz.zeroValue250 }
def Tryz.laysNm220_ren:Go.Shelf.Ren:=⟨fun | 20=>162 | n=>n,fun | 22=>26 | 3=>3 | 4=>4 | 0=>0 | n=>n,fun | n=>n⟩
theorem Tryz.laysNm220:Go.Proofs.Lays2.n20 Tryz.prog Tryz.laysNm220_ren:={ mixed:=by kernel_rfl,f20:=Tryz.func162.trans (congrArg some (by kernel_rfl)),t0:=Tryz.underlying0,a0:=Tryz.isAgg0,z0:=Tryz.sizeOf0,v0:=Tryz.zeroValue0,t3:=Tryz.underlying3,a3:=Tryz.isAgg3,z3:=Tryz.sizeOf3,v3:=Tryz.zeroValue3,t4:=Tryz.underlying4,a4:=Tryz.isAgg4,z4:=Tryz.sizeOf4,v4:=Tryz.zeroValue4,t22:=Tryz.underlying26,a22:=Tryz.isAgg26,z22:=Tryz.sizeOf26,v22:=Tryz.zeroValue26,i3:=by kernel_rfl }
def Tryz.laysNm215_ren:Go.Shelf.Ren:=⟨fun | 15=>163 | n=>n,fun | 22=>26 | 3=>3 | 4=>4 | n=>n,fun | n=>n⟩
theorem Tryz.laysNm215:Go.Proofs.Lays2.n15 Tryz.prog Tryz.laysNm215_ren:={ mixed:=by kernel_rfl,f15:=Tryz.func163.trans (congrArg some (by kernel_rfl)),t3:=Tryz.underlying3,a3:=Tryz.isAgg3,z3:=Tryz.sizeOf3,v3:=Tryz.zeroValue3,t4:=Tryz.underlying4,a4:=Tryz.isAgg4,z4:=Tryz.sizeOf4,v4:=Tryz.zeroValue4,t22:=Tryz.underlying26,a22:=Tryz.isAgg26,z22:=Tryz.sizeOf26,v22:=Tryz.zeroValue26,i3:=by kernel_rfl }
def Tryz.growI_ren:Go.Shelf.Ren:=⟨fun | 4=>233 | n=>n,fun | 22=>26 | 25=>3 | 3=>3 | 4=>4 | 9=>9 | 20=>20 | 0=>0 | n=>n,fun | n=>n⟩
theorem Tryz.growI:Go.Proofs.Lays8.n4 Tryz.prog Tryz.growI_ren:={ mixed:=by kernel_rfl,f4:=⟨Tryz.f233.name,by decide,Tryz.func233.trans (congrArg some (by kernel_rfl))⟩,t0:=Tryz.underlying0,a0:=Tryz.isAgg0,z0:=Tryz.sizeOf0,v0:=Tryz.zeroValue0,t3:=Tryz.underlying3,a3:=Tryz.isAgg3,z3:=Tryz.sizeOf3,v3:=Tryz.zeroValue3,t4:=Tryz.underlying4,a4:=Tryz.isAgg4,z4:=Tryz.sizeOf4,v4:=Tryz.zeroValue4,t9:=Tryz.underlying9,a9:=Tryz.isAgg9,z9:=Tryz.sizeOf9,v9:=Tryz.zeroValue9,t20:=Tryz.underlying20,a20:=Tryz.isAgg20,z20:=Tryz.sizeOf20,v20:=Tryz.zeroValue20,t22:=Tryz.underlying26,a22:=Tryz.isAgg26,z22:=Tryz.sizeOf26,v22:=Tryz.zeroValue26 }
end Go.Proofs
namespace Go.Proofs.YtpdfmcmnjikppaaGreat
open Go.RowKit (Below)
def numsOf (z:D):List Int:=z.rows.map fun r=>(gd r 0).int
def numsD (xs:List Int):D:=.l (xs.map fun n => [.i n])
def sortL (xs:List Int):List Int:=xs.mergeSort fun x y=>decide (x≤y)
def sortD (z:D):D:=numsD (sortL (numsOf z))
def compD (z:D):D:=numsD (Lib.compact (numsOf z))
theorem numsOf_len (z:D):(numsOf z).length=z.rows.length:=by simp [numsOf]
theorem numsD_rows (xs:List Int):(numsD xs).rows=xs.map fun n => [.i n]:=rfl
theorem numsD_len (xs:List Int):(numsD xs).rows.length=xs.length:=by simp [numsD,D.rows]
theorem numsD_at (xs:List Int) (i:Nat) (h:i<xs.length):(gd ((numsD xs).rows.getD i []) 0).int=xs[i]:=by
 rw [numsD_rows,List.getD_eq_getElem?_getD,List.getElem?_map,List.getElem?_eq_getElem h]
 rfl
theorem numsOf_at (z:D) (i:Nat) (h:i<z.rows.length):(numsOf z)[i]?=some (gd (z.rows.getD i []) 0).int:=by
 simp [numsOf,List.getD_eq_getElem?_getD,List.getElem?_eq_getElem h]
theorem numsOf_numsD (xs:List Int):numsOf (numsD xs)=xs:=by
 unfold numsOf
 rw [numsD_rows,List.map_map]
 have:((fun r=>(gd r 0).int) ∘ fun n:Int => [D.i n])=id:=by funext n; rfl
 rw [this,List.map_id]
theorem sortL_len (xs:List Int):(sortL xs).length=xs.length:=List.length_mergeSort xs
theorem comp_le (xs:List Int):(Lib.compact xs).length≤xs.length:=by
 unfold Lib.compact Lib.compactUpTo
 rw [List.length_map]
 exact Nat.le_trans (List.length_filter_le _ _) (by simp)
theorem writ_put {w:World} {b n:Nat} {arr:Array Value} {e:TypeId} {d:Array Int} {os:Array Obj} {rows:List (List D)} (hh:w.heap[b]?=some (.cells arr e (0,0))) (hd:d.size≤arr.size)
  (hr:∀ i,i<rows.length→i<d.size∧d[i]! = (gd (rows.getD i []) 0).int):Writ b e arr rows w (Go.Sort.grow (Go.Sort.putRow (Value.int .i64) (Go.Sort.ahead w n) b 0 d) os):=by
 have hb:=lt_of_heap hh
 have h1:(Go.Sort.grow (Go.Sort.putRow (Value.int .i64) (Go.Sort.ahead w n) b 0 d) os).heap=w.heap.modify b (Go.Sort.onCells (Go.Sort.putCells (Value.int .i64) 0 d))++os:=rfl
 have h2:∀ k,k<w.heap.size→(Go.Sort.grow (Go.Sort.putRow (Value.int .i64) (Go.Sort.ahead w n) b 0 d) os).heap[k]?=if b=k then (w.heap[k]?).map (Go.Sort.onCells (Go.Sort.putCells (Value.int .i64) 0 d)) else w.heap[k]?:=fun k hk=>by
  rw [h1,Array.getElem?_append_left (by simpa using hk),Array.getElem?_modify]
 refine ⟨⟨rfl,rfl,rfl,by rw [h1]; simp,fun k hk=>by omega⟩,fun k hk hne=>by rw [h2 k hk,if_neg (Ne.symm hne)],Go.Sort.putCells (Value.int .i64) 0 d arr,?_,?_,?_⟩
 ·rw [h2 b hb,if_pos rfl,hh]; rfl
 ·simp [Go.Sort.putCells]
 ·intro i hi
  obtain ⟨q1,q2⟩:=hr i hi
  have hlt:i<arr.size:=by omega
  unfold Go.Sort.putCells
  rw [Array.getElem?_mapIdx,Array.getElem?_eq_getElem hlt]
  rw [getElem!_pos d i q1] at q2
  simp only [← q2]
  simp [q1]
theorem holds_nums {w:World} {b:Nat} {arr:Array Value} {e:TypeId} {x:D} (hh:w.heap[b]?=some (.cells arr e (0,0))) (hle:x.rows.length≤arr.size) (hc:∀ i,i<x.rows.length→arr[i]?=some (.int .i64 (gd (x.rows.getD i []) 0).int)) :
  Go.Sort.Holds (Value.int .i64) w b 0 (numsOf x).toArray:=by
 intro j hj
 have hj:j<x.rows.length:=by simpa [numsOf] using hj
 refine ⟨?_,?_⟩
 ·have e1:(numsOf x).toArray[j]! = (gd (x.rows.getD j []) 0).int:=by
   have:=numsOf_at x j hj
   simp [getElem!_def,this]
  rw [e1]
  simp only [World.cell?,hh,Nat.zero_add]
  exact hc j hj
 ·simp [World.frozen?,hh]
def i_sortE:Ent:=(161,e1 (sd (.sl 3)) fun p=>(⟨.tup [.c .any],[sortD (gd p 0)]⟩,leI ((gd p 0).rows.length:Int) 1000000000))
theorem i_sort_ok:EntOk Tryz.prog i_sortE:=e1_ok fun p h=>by
 have h:leI ((gd p 0).rows.length:Int) 1000000000=true:=h
 simp only [leI,decide_eq_true_eq] at h
 refine SoundFn.ofW rfl ⟨enters Tryz.func161 (by kernel_rfl) (by kernel_rfl),fun e x he hrow=>?_⟩
 injection he with he _
 injection he with he hp
 injection he with he
 injection he with he
 injection he with he
 injection he with he
 subst he
 subst hp
 have hx:gd [x] 0=x:=rfl
 rw [hx] at h
 refine ⟨fun h0=>⟨?_,fun A w=>?_⟩,fun w b cap arr hh hsz hle hc hnum=>⟨?_,fun _=>?_,?_⟩⟩
 ·show (sortD x).rows = []
  have:numsOf x = []:=by unfold numsOf; rw [h0]; rfl
  exact List.eq_nil_of_length_eq_zero (by rw [sortD,numsD_len,sortL_len,this]; rfl)
 ·refine (Any.slices_Sort_int_none Tryz.lays189 A 0 w).mono ?_
  rintro ex w' ⟨rfl,rfl⟩
  exact ⟨rfl,Below.refl _ _⟩
 ·show (sortD x).rows.length≤_
  rw [sortD,numsD_len,sortL_len,numsOf_len]
  exact Nat.le_refl _
 ·show (sortD x).rows.length=_
  rw [sortD,numsD_len,sortL_len,numsOf_len]
 ·have hl:=numsOf_len x
  have hs:=Any.slices_Sort_int Tryz.lays189 b 0 cap (numsOf x) w (holds_nums hh (by omega) hnum) (lt_of_heap hh) (by omega)
  rw [hl] at hs
  refine hs.mono ?_
  rintro ex w' ⟨rfl,n,os,rfl⟩
  refine ⟨rfl,writ_put hh (by simp [hl]; omega) fun i hi=>?_⟩
  have hi:i<(sortL (numsOf x)).length:=by
   have hi:i<(sortD x).rows.length:=hi
   rwa [sortD,numsD_len] at hi
  refine ⟨by simpa [sortL] using hi,?_⟩
  show _=(gd ((sortD x).rows.getD i []) 0).int
  rw [sortD,numsD_at _ _ hi]
  have hi':i<((numsOf x).mergeSort fun x y=>decide (x≤y)).length:=hi
  simp [getElem!_def,List.getElem?_eq_getElem hi',sortL]
def i_compE:Ent:=(162,e1 (sd (.sl 3)) fun p=>(⟨.tup [.agg []],[compD (gd p 0)]⟩,leI ((gd p 0).rows.length:Int) 1000000000))
theorem i_comp_ok:EntOk Tryz.prog i_compE:=e1_ok fun p h=>by
 have h:leI ((gd p 0).rows.length:Int) 1000000000=true:=h
 simp only [leI,decide_eq_true_eq] at h
 refine SoundFn.ofW rfl ⟨enters Tryz.func162 (by kernel_rfl) (by kernel_rfl),fun e x he hrow=>?_⟩
 injection he with he _
 injection he with he hp
 injection he with he
 injection he with he
 injection he with he
 injection he with he
 subst he
 subst hp
 have hx:gd [x] 0=x:=rfl
 rw [hx] at h
 have hcl:∀ x:D,(compD x).rows.length=(Lib.compact (numsOf x)).length:=fun x=>numsD_len _
 refine ⟨fun h0=>⟨?_,fun A w=>?_⟩,fun w b cap arr hh hsz hle hc hnum=>⟨?_,?_,?_⟩⟩
 ·show (compD x).rows = []
  have:numsOf x = []:=by unfold numsOf; rw [h0]; rfl
  unfold compD
  rw [this]; rfl
 ·refine (Any.slices_Compact_int_empty Tryz.laysNm220 A 0 w).mono ?_
  rintro ex w' ⟨rfl,rfl⟩
  exact ⟨rfl,Below.refl _ _⟩
 ·show (compD x).rows.length≤_
  rw [hcl,← numsOf_len]
  exact comp_le _
 ·rintro ⟨c,hc⟩
  cases hc
 ·have hl:=numsOf_len x
  have hcle:=comp_le (numsOf x)
  have hs:=Any.slices_Compact_int Tryz.laysNm220 b 0 cap (numsOf x) w (holds_nums hh (by omega) hnum) (by omega) (by omega)
  rw [hl] at hs
  refine hs.mono ?_
  rintro ex w' ⟨rfl,n,rfl⟩
  refine ⟨?_,?_⟩
  ·show _=Ending.returned (.slice (some ⟨b,0,none⟩) (compD x).rows.length cap)
   rw [hcl]
  ·have:=writ_put (os:= #[]) (n:=n) (rows:=(compD x).rows) (d:=(Lib.compact (numsOf x)++List.replicate (x.rows.length - (Lib.compact (numsOf x)).length) 0).toArray) hh (by simp; omega) fun i hi=>?_
   ·rw [Go.Sort.grow_empty] at this
    exact this
   ·rw [hcl] at hi
    refine ⟨by simp; omega,?_⟩
    rw [compD,numsD_at _ _ hi]
    simp [getElem!_def,List.getElem?_append_left hi,List.getElem?_eq_getElem hi]
theorem res_own {P:Program} {prot:Nat→Nat} {w w':World} {e:TypeId} {x:D} {v:Value} (hrow:rowOf P e=some [.int .i64]) (hfr:∀ b,w.heap.size≤b→prot b=0) (hb:Below w.heap.size w w') (ho:w'.ownsRow w.heap.size e 1 v x.rows.length ((numsOf x).map (Value.int .i64))) :
  ∃ g',Res P prot w w' ⟨.one (.c (.own (0,0) true e)),[x]⟩ v g':=by
 obtain ⟨hl,⟨rfl,h0⟩ | ⟨blk,cap,cur,rfl,hblk,hh,hcap,hmax,hsz,htk⟩⟩:=ho
 ·exact ⟨g0 0 prot,hb,⟨[.int .i64],hrow,.inl ⟨List.eq_nil_of_length_eq_zero h0,rfl,none,rfl⟩⟩,fun _ _=>rfl,fun b hb'=>⟨hfr b (Nat.le_trans hb.size hb'),rfl⟩⟩
 ·refine ⟨⟨prot,fun b=>if b=blk then some (.inr (0,0)) else none,fun _=>0,fun _=>blk,fun _=>x.rows.length,fun _=>1,fun _=>e,fun _ => [],fun _=>0,fun _=>False⟩,hb,⟨[.int .i64],hrow,.inr ⟨cap,cur,e,rfl,hcap,⟨by unfold maxLen at hmax; omega,rfl,rfl⟩,hblk,if_pos rfl,hh,by simpa using hsz,rfl,rfl,?_,?_⟩⟩,fun _ _=>rfl,fun b hb'=>⟨hfr b (Nat.le_trans hb.size hb'),?_⟩⟩
  ·show prot blk=0
   exact hfr blk hblk
  ·intro i j s hi hs
   have hi:i<x.rows.length:=hi
   match j,hs with
   | 0,hs =>
    injection hs with hs
    subst hs
    refine ⟨.int .i64 (gd (x.rows.getD i []) 0).int,?_,.of_vd (.int .i64 _) (.inr rfl)⟩
    have e1:(cur.toList.take (x.rows.length*1))[i]?=some (Value.int .i64 (gd (x.rows.getD i []) 0).int):=by
     rw [htk,List.getElem?_map,numsOf_at x i hi]; rfl
    rw [List.getElem?_take,if_pos (by omega)] at e1
    simpa using e1
  ·have:=lt_of_heap hh
   exact if_neg (by omega)
def i_clonE:Ent:=(163,e1 (sd (.sl 3)) fun p=>(⟨.one (.c (.own (0,0) true 3)),[.l (gd p 0).rows]⟩,leI ((gd p 0).rows.length:Int) 1000000000))
theorem i_clon_ok:EntOk Tryz.prog i_clonE:=e1_ok fun p h=>by
 have h:leI ((gd p 0).rows.length:Int) 1000000000=true:=h
 simp only [leI,decide_eq_true_eq] at h
 have hrow:rowOf Tryz.prog 3=some [.int .i64]:=by kernel_rfl
 refine SoundFn.of rfl ⟨enters Tryz.func163 (by kernel_rfl) (by kernel_rfl),fun w prot vs hargs hfr=>?_⟩
 obtain ⟨u,hu,hv⟩:=hargs.2 0 _ rfl
 have hvs:vs = #[u]:=by
  have hs:vs.size=1:=hargs.1
  refine Array.ext (by simpa using hs) fun i h1 h2=>?_
  have:i=0:=by omega
  subst this
  rw [Array.getElem?_eq_getElem h1] at hu
  injection hu
 subst hvs
 have hv:VD Tryz.prog w prot (.sl 3) (gd p 0) u:=hv
 generalize gd p 0=x at *
 cases hv with
 | sl e d A c row uu hr h1 h2 h3 h4 =>
  rw [hrow] at hr
  injection hr with hr
  subst hr
  cases A with
  | none =>
   have h0:x.rows.length=0:=by
    rcases Nat.eq_zero_or_pos x.rows.length with h' | h'
    ·exact h'
    ·obtain ⟨b,o,hA,_⟩:=h3 0 0 h' (by decide)
     cases hA
   have hx0:x.rows = []:=List.eq_nil_of_length_eq_zero h0
   refine (Any.slices_Clone_int_nil Tryz.laysNm215 x.rows.length c w).mono ?_
   rintro ex w' ⟨rfl,rfl⟩
   obtain ⟨g',hg⟩:=res_own (x:=x) (prot:=prot) (w:=w') (w':=w') hrow hfr (Below.refl _ _) (v:=.slice none 0 0) ⟨by simp [numsOf],.inl ⟨rfl,h0⟩⟩
   exact ⟨_,g',rfl,hg.below,hg.val,hg.prot,hg.fresh⟩
  | some ad =>
   rcases Nat.eq_zero_or_pos x.rows.length with h0 | hpos
   ·have hx0:x.rows = []:=List.eq_nil_of_length_eq_zero h0
    rw [h0]
    refine (Any.slices_Clone_int_zero Tryz.laysNm215 ad c w).mono ?_
    rintro ex w' ⟨v',rfl,hown,_,hbel⟩
    obtain ⟨g',hg⟩:=res_own (x:=x) (prot:=prot) hrow hfr hbel (v:=v') (by
     have e1:numsOf x = []:=by unfold numsOf; rw [hx0]; rfl
     rw [h0,e1]; exact hown)
    exact ⟨_,g',rfl,hg.below,hg.val,hg.prot,hg.fresh⟩
   ·obtain ⟨b,o,hA,_⟩:=h3 0 0 hpos (by decide)
    injection hA with hA
    subst hA
    have hl:=numsOf_len x
    refine (Any.slices_Clone_int Tryz.laysNm215 b o x.rows.length c (numsOf x) w (by omega) (by omega) (fun j hj=>?_)).mono ?_
    ·have hj:j<x.rows.length:=by rw [← hl]; exact hj
     obtain ⟨b',o',hA,hc,_⟩:=h3 j 0 hj (by decide)
     simp only [Option.some.injEq,Addr.mk.injEq] at hA
     obtain ⟨rfl,rfl,_⟩:=hA
     have hvv:=h4 j 0 (.int .i64) hj rfl
     generalize uu j 0=uv at *
     cases hvv
     have e1:(numsOf x).getD j 0=(gd (x.rows.getD j []) 0).int:=by
      rw [List.getD_eq_getElem?_getD,numsOf_at x j hj]; rfl
     rw [e1]
     simpa using hc
    ·rintro ex w' ⟨v',rfl,hown,_,hbel⟩
     obtain ⟨g',hg⟩:=res_own (x:=x) (prot:=prot) hrow hfr hbel (v:=v') (by
      rw [List.take_of_length_le (by omega)] at hown; exact hown)
     exact ⟨_,g',rfl,hg.below,hg.val,hg.prot,hg.fresh⟩
def i_growE:Ent:=(233,e2 (.one (.c (.own (0,0) true 3))) ri fun p q=>(⟨.one (.c (.own (0,0) true 3)),[.l []]⟩,leI 0 (gd q 0).int&&leI (gd q 0).int 1000000000))
theorem i_grow_ok:EntOk Tryz.prog i_growE:=e2_ok fun p q h=>by
 have h:(leI 0 (gd q 0).int&&leI (gd q 0).int 1000000000)=true:=h
 simp only [Bool.and_eq_true,leI,decide_eq_true_eq] at h
 have hrow:rowOf Tryz.prog 3=some [.int .i64]:=by kernel_rfl
 refine SoundFn.of rfl ⟨enters Tryz.func233 (by kernel_rfl) (by kernel_rfl),fun w prot vs hargs hfr=>?_⟩
 obtain ⟨u,hu,hv⟩:=hargs.2 0 _ rfl
 obtain ⟨u1,hu1,hv1⟩:=hargs.2 1 _ rfl
 have hvs:vs = #[u,u1]:=by
  have hs:vs.size=2:=hargs.1
  refine Array.ext (by simpa using hs) fun i h1 h2=>?_
  have:i=0∨i=1:=by omega
  rcases this with rfl | rfl
  ·rw [Array.getElem?_eq_getElem h1] at hu
   injection hu
  ·rw [Array.getElem?_eq_getElem h1] at hu1
   injection hu1
 subst hvs
 have hv1:VD Tryz.prog w prot (.int .i64) (gd q 0) u1:=hv1
 obtain ⟨row,_,hown⟩:=hv
 generalize gd q 0=y at *
 cases hv1
 rcases hown with ⟨_,_,A,rfl⟩ | ⟨_,_,_,_,_,_,_,ho,_⟩
 ·obtain ⟨n,hn⟩:∃ n:Nat,y.int=n:=⟨y.int.toNat,by omega⟩
  rw [hn]
  rcases Nat.eq_zero_or_pos n with rfl | hpos
  ·refine (Any8.slices_Grow_room Tryz.growI A 0 0 0 w (by omega) (by omega) (by omega) (by omega)).mono ?_
   rintro ex w' ⟨rfl,rfl⟩
   exact ⟨_,g0 0 prot,rfl,Below.refl _ _,⟨[.int .i64],hrow,.inl ⟨rfl,rfl,A,rfl⟩⟩,fun _ _=>rfl,fun b hb'=>⟨hfr b hb',rfl⟩⟩
  ·obtain ⟨i0,hi0,hz0,hs0,hby⟩:=info_parts (P:=Tryz.prog) (e:=3) (z:=.int .i64 0) (size:=1) (bytes:=8) (by kernel_rfl)
   obtain ⟨z,hz⟩:∃ z,z=Value.int .i64 0:=⟨_,rfl⟩
   have hzc:z.cells.size=1:=by rw [hz]; rfl
   rw [← hz] at hz0
   refine (Any8.slices_Grow_grow Tryz.growI i0 z hi0 hz0 (by omega) A 0 0 n [] w (by omega) (by omega) (by rw [hby]; omega) (by omega) (by simp) (fun _=>rfl) (fun a _ j v hj=>by simp at hj)).mono ?_
   rintro ex w' ⟨rfl,rfl⟩
   have hge:=grownCap_ge w (0+n) 0 3
   have hcm:=grownCap_le_maxLen w (0+n) 0 3 (by unfold maxLen; omega)
   obtain ⟨g',hg⟩:=res_own (x:=.l []) (prot:=prot) (w:=w) (w':=w.drew.alloc (.cells ((#[]:Array Value)++Builtin.zeroCells z.cells (0+n - 0)++Builtin.zeroCells z.cells (grownCap w (0+n) 0 3 - (0+n))) 3)) hrow hfr
    ⟨rfl,rfl,rfl,by simp,fun k hk=>Below.heap_alloc w.drew _ k hk⟩ (v:=.slice (some ⟨w.heap.size,0,none⟩) 0 (grownCap w (0+n) 0 3)) ⟨rfl,.inr ⟨w.heap.size,_,_,rfl,Nat.le_refl _,(by letI:Low:=noLow; exact heap_new w.drew _),Nat.zero_le _,hcm,(by simp only [Nat.zero_add] at hge; simp [size_zeroCells,hzc]; omega),rfl⟩⟩
   exact ⟨_,g',rfl,hg⟩
 ·cases ho
theorem keeps_iff (ys:List Int) (hs:ys.Pairwise (· ≤ ·)):(∀ j,j<ys.length→Lib.keeps ys.toArray j=true)↔ys.Nodup:=by
 have hle:∀ i j (hi:i<ys.length) (hj:j<ys.length),i≤j→ys[i]≤ys[j]:=by
  intro i j hi hj h
  rcases Nat.lt_or_ge i j with h | h
  ·exact List.pairwise_iff_getElem.1 hs i j hi hj h
  ·have:i=j:=by omega
   subst this; exact Int.le_refl _
 have hk:∀ j (hj:j<ys.length),j≠0→(Lib.keeps ys.toArray j=true↔ys[j]≠ys[j - 1]):=by
  intro j hj h0
  have hj1:j - 1<ys.length:=by omega
  simp [Lib.keeps,h0,getElem!_def,List.getElem?_eq_getElem hj,List.getElem?_eq_getElem hj1]
 constructor
 ·intro h
  refine List.pairwise_iff_getElem.2 fun i j hi hj hij=>?_
  have h1:=(hk j hj (by omega)).1 (h j hj)
  have h2:=hle i (j - 1) hi (by omega) (by omega)
  have h3:=hle (j - 1) j (by omega) hj (by omega)
  omega
 ·intro h j hj
  by_cases h0:j=0
  ·subst h0; simp [Lib.keeps]
  ·refine (hk j hj h0).2 ?_
   have:=List.pairwise_iff_getElem.1 h (j - 1) j (by omega) hj (by omega)
   exact fun e=>this e.symm
theorem comp_len (ys:List Int) (hs:ys.Pairwise (· ≤ ·)):((Lib.compact ys).length=ys.length)↔ys.Nodup:=by
 rw [← keeps_iff ys hs]
 unfold Lib.compact Lib.compactUpTo
 rw [List.length_map]
 have h:=List.length_filter_eq_length_iff (l:=List.range ys.length) (p:=Lib.keeps ys.toArray)
 rw [List.length_range] at h
 rw [h]
 simp
theorem sortL_pair (xs:List Int):(sortL xs).Pairwise (· ≤ ·):=by
 have h:=List.pairwise_mergeSort (le:=fun x y:Int=>decide (x≤y)) (by intro a b c h1 h2; simp only [decide_eq_true_eq] at *; omega) (by intro a b; simp only [Bool.or_eq_true,decide_eq_true_eq]; omega) xs
 exact h.imp fun h=>by simpa using h
theorem comp_sort (z:D):(compD (sortD z)).rows.length=(sortD z).rows.length↔(numsOf z).Nodup:=by
 unfold compD
 rw [numsD_len]
 unfold sortD
 rw [numsOf_numsD,numsD_len,comp_len _ (sortL_pair _)]
 exact (List.mergeSort_perm (numsOf z) _).nodup_iff
end Go.Proofs.YtpdfmcmnjikppaaGreat
namespace Go.Proofs.YtpdfmcmnjikppaaGreat
set_option maxRecDepth 4096
set_option maxHeartbeats 1000000
abbrev i_ConcatT:FuncId→List T→Option (T × Bool):=find [i_growE]
theorem i_ConcatT_ok:CallOk Tryz.prog i_ConcatT:=find_ok (fC ⟨i_grow_ok,fN⟩)
abbrev i_ConcatK:List Nat:= [0,2,3,5,6,8,9,10,11,12,20,25,26,27,28]
noncomputable def i_ConcatL0 (N:Nat) (p:List D):List D→Out:=loopOf Tryz.prog i_ConcatT N i_ConcatK Tryz.f157 (.one (.c (.own (0,0) true 3))) [⟨sd (.sl 26),p⟩] 0
noncomputable def i_ConcatL2 (N:Nat) (p:List D):List D→Out:=loopOf Tryz.prog i_ConcatT N i_ConcatK Tryz.f157 (.one (.c (.own (0,0) true 3))) [⟨sd (.sl 26),p⟩] 2
theorem i_ConcatR0 (N:Nat) (p:List D) (x0 x1 x2 x3 x4 x5:D):(i_ConcatL0 N p) [x0,x1,x2,x3,x4,x5] =
 bif ltI x5.int x4.int then nd (inRange x5.int x3.rows.length) (bif ltI (w64 (x2.int+((gd (x3.rows.getD x5.int.toNat []) 0).rows.length:Int))) 0 then nd false (nd false (nx [x0,x1,.i (w64 (x2.int+((gd (x3.rows.getD x5.int.toNat []) 0).rows.length:Int))),x3,x4,.i (w64 (x5.int+1))]))
 else nx [x0,x1,.i (w64 (x2.int+((gd (x3.rows.getD x5.int.toNat []) 0).rows.length:Int))),x3,x4,.i (w64 (x5.int+1))])
 else ex 0 [x0,x1,x2,x3,x4,x5]:=by kernel_rfl
theorem i_ConcatR2 (N:Nat) (p:List D) (x0 x1 x2 x3 x4 x5 x6 x7 x8 x9:D):(i_ConcatL2 N p) [x0,x1,x2,x3,x4,x5,x6,x7,x8,x9] =
 bif ltI x9.int x8.int then nd (inRange x9.int x7.rows.length) (nd (lenOk (x6.rows++(gd (x7.rows.getD x9.int.toNat []) 0).rows)&&true) (nx [x0,x1,x2,x3,x4,x5,.l (x6.rows++(gd (x7.rows.getD x9.int.toNat []) 0).rows),x7,x8,.i (w64 (x9.int+1))]))
 else ex 2 [x0,x1,x2,x3,x4,x5,x6,x7,x8,x9]:=by kernel_rfl
theorem i_Concat_ev (N:Nat) (p:List D):evFn Tryz.prog i_ConcatT N i_ConcatK Tryz.f157 (.one (.c (.own (0,0) true 3))) [⟨sd (.sl 26),p⟩]=some (bo,
 (let o0:=iter (i_ConcatL0 N p) N [gd p 0,.l [],.i 0,gd p 0,.i ((gd p 0).rows.length:Int),.i 0]
  nd o0.isSome (nd (o0.code==2) (nd (leI 0 (gd o0.pay 2).int&&leI (gd o0.pay 2).int 1000000000) ((let o2:=iter (i_ConcatL2 N p) N [gd o0.pay 0,gd o0.pay 1,gd o0.pay 2,gd o0.pay 3,gd o0.pay 4,gd o0.pay 5,.l [],gd o0.pay 0,.i ((gd o0.pay 0).rows.length:Int),.i 0]
  nd o2.isSome (nd (o2.code==4) (some (1,[gd o2.pay 6]))))))))):=by kernel_rfl
def concD (x:D):D:=.l ((gd (x.rows.getD 0 []) 0).rows++(gd (x.rows.getD 1 []) 0).rows)
def concOk (x:D):Bool:=x.rows.length==2&&(leI ((gd (x.rows.getD 0 []) 0).rows.length:Int) 100000000&&leI ((gd (x.rows.getD 1 []) 0).rows.length:Int) 100000000)
theorem iter_nx {L:List D→Out} {n:Nat} {p q:List D} (h:L p=nx q):iter L (n+1) p=iter L n q:=by
 show (match L p with | some (0,p')=>iter L n p' | o=>o)=_
 rw [h]; rfl
theorem iter_ex {L:List D→Out} {n c:Nat} {p q:List D} (h:L p=some (c+1,q)):iter L (n+1) p=some (c+1,q):=by
 show (match L p with | some (0,p')=>iter L n p' | o=>o)=_
 rw [h]; rfl
def i_ConcatE:Ent:=(157,e1 (sd (.sl 26)) fun p=>(⟨.one (.c (.own (0,0) true 3)),[concD (gd p 0)]⟩,concOk (gd p 0)))
theorem i_Concat_ok:EntOk Tryz.prog i_ConcatE:=e1_ok fun p h=>evFn_sound (N:=3) (ks:=i_ConcatK) (key:=bo) i_ConcatT_ok (enters Tryz.func157) Tryz.func157 fun hw=>by
 rw [i_Concat_ev]
 have h:concOk (gd p 0)=true:=h
 unfold concOk at h
 simp only [Bool.and_eq_true,leI,decide_eq_true_eq,beq_iff_eq] at h
 obtain ⟨hl,h0,h1⟩:=h
 have hlen:∀ k,k<(gd p 0).rows.length→((gd ((gd p 0).rows.getD k []) 0).rows.length:Int)≤100000000:=fun k hk=>by
  have:k=0∨k=1:=by omega
  rcases this with rfl | rfl <;> assumption
 have s0:∀ (k:Nat) (s:Int),k<(gd p 0).rows.length→0≤s→s≤100000000→i_ConcatL0 3 p [gd p 0,.l [],.i s,gd p 0,.i ((gd p 0).rows.length:Int),.i (k:Int)]=nx [gd p 0,.l [],.i (s+((gd ((gd p 0).rows.getD k []) 0).rows.length:Int)),gd p 0,.i ((gd p 0).rows.length:Int),.i ((k+1:Nat):Int)]:=fun k s hk hs1 hs2=>by
  have:=hlen k hk
  rw [i_ConcatR0]
  simp only [int_i,c_lt hk,nd_ix hk,Int.toNat_natCast]
  rw [w64_id (by omega) (by omega),ltI_f (by omega),cond_false,w64_succ hk (by omega)]
 have s2:∀ (k:Nat) (x2 x3 x4 x5:D) (rs:List (List D)),k<(gd p 0).rows.length→rs.length≤100000000→i_ConcatL2 3 p [gd p 0,.l [],x2,x3,x4,x5,.l rs,gd p 0,.i ((gd p 0).rows.length:Int),.i (k:Int)]=nx [gd p 0,.l [],x2,x3,x4,x5,.l (rs++(gd ((gd p 0).rows.getD k []) 0).rows),gd p 0,.i ((gd p 0).rows.length:Int),.i ((k+1:Nat):Int)]:=fun k x2 x3 x4 x5 rs hk hrs=>by
  have:=hlen k hk
  rw [i_ConcatR2]
  simp only [int_i,rows_l,c_lt hk,nd_ix hk,Int.toNat_natCast]
  rw [lenOk_t (by rw [List.length_append]; omega),w64_succ hk (by omega)]
  rfl
 have e0:iter (i_ConcatL0 3 p) 3 [gd p 0,.l [],.i 0,gd p 0,.i ((gd p 0).rows.length:Int),.i 0]=some (2,[gd p 0,.l [],.i (0+((gd ((gd p 0).rows.getD 0 []) 0).rows.length:Int)+((gd ((gd p 0).rows.getD 1 []) 0).rows.length:Int)),gd p 0,.i ((gd p 0).rows.length:Int),.i ((gd p 0).rows.length:Int)]):=by
  refine Eq.trans (iter_nx (n:=2) (s0 0 0 (by omega) (by omega) (by omega))) (Eq.trans (iter_nx (n:=1) (s0 1 _ (by omega) (by omega) (by omega))) ?_)
  have e:((1+1:Nat):Int)=((gd p 0).rows.length:Int):=by omega
  rw [e]
  refine iter_ex (c:=1) ?_
  rw [i_ConcatR0]
  simp only [int_i,c_nlt]
 have e2:∀ (x2 x3 x4 x5:D),iter (i_ConcatL2 3 p) 3 [gd p 0,.l [],x2,x3,x4,x5,.l [],gd p 0,.i ((gd p 0).rows.length:Int),.i 0]=some (4,[gd p 0,.l [],x2,x3,x4,x5,.l ([]++(gd ((gd p 0).rows.getD 0 []) 0).rows++(gd ((gd p 0).rows.getD 1 []) 0).rows),gd p 0,.i ((gd p 0).rows.length:Int),.i ((gd p 0).rows.length:Int)]):=fun x2 x3 x4 x5=>by
  refine Eq.trans (iter_nx (n:=2) (s2 0 x2 x3 x4 x5 [] (by omega) (by simp))) (Eq.trans (iter_nx (n:=1) (s2 1 x2 x3 x4 x5 _ (by omega) (by have:=hlen 0 (by omega); rw [List.nil_append]; omega))) ?_)
  have e:((1+1:Nat):Int)=((gd p 0).rows.length:Int):=by omega
  rw [e]
  refine iter_ex (c:=3) ?_
  rw [i_ConcatR2]
  simp only [int_i,c_nlt]
 refine congrArg (fun x=>some (bo,x)) ?_
 simp only [e0,nd,cond_true,cond_false,Option.isSome_some,Out.code,Out.pay,Option.getD_some,gd_cons_zero,gd_cons_succ,Nat.reduceBEq,Nat.reduceAdd,int_i,bool_b,str_s,rows_l,Bool.not_true,Bool.not_false,beq_self_eq_true]
 rw [leI_t (by omega),leI_t (by omega)]
 simp only [e2,nd,cond_true,cond_false,Option.isSome_some,Out.code,Out.pay,Option.getD_some,gd_cons_zero,gd_cons_succ,Nat.reduceBEq,Nat.reduceAdd,int_i,bool_b,str_s,rows_l,Bool.not_true,Bool.not_false,beq_self_eq_true,Bool.and_self]
 rw [List.nil_append]
 rfl
end Go.Proofs.YtpdfmcmnjikppaaGreat
namespace Go.Proofs.YtpdfmcmnjikppaaGreat
set_option maxRecDepth 4096
set_option maxHeartbeats 1000000
abbrev i_ShardOkT:FuncId→List T→Option (T × Bool):=find [i_isGroupE,i_RangesOkE,i_StoreOkE,i_LocksOkE,i_heldsOkE,i_ascendingE,i_fromE,cofSFE,cofSCE,i_ConcatE,cofSLE,i_txsOfE,i_sortE,i_clonE,i_compE,i_roomE]
theorem i_ShardOkT_ok:CallOk Tryz.prog i_ShardOkT:=find_ok (fC ⟨i_isGroup_ok,fC ⟨i_RangesOk_ok,fC ⟨i_StoreOk_ok,fC ⟨i_LocksOk_ok,fC ⟨i_heldsOk_ok,fC ⟨i_ascending_ok,fC ⟨i_from_ok,fC ⟨cofSF_ok,fC ⟨cofSC_ok,fC ⟨i_Concat_ok,fC ⟨cofSL_ok,fC ⟨i_txsOf_ok,fC ⟨i_sort_ok,fC ⟨i_clon_ok,fC ⟨i_comp_ok,fC ⟨i_room_ok,fN⟩⟩⟩⟩⟩⟩⟩⟩⟩⟩⟩⟩⟩⟩⟩⟩)
abbrev i_ShardOkK:List Nat:= [0,1,2,3,4,55,65,75]
noncomputable def i_ShardOks0 (N:Nat) (p:List D):Out:=nd (leI ((gd p 3).rows.length:Int) 1000000000&&leI ((gd p 5).rows.length:Int) 1000000000) (ob (leI (roomOf (sub p 0 9)) 60))
noncomputable def i_ShardOks1 (N:Nat) (p:List D):Out:=bif ((compD (.l (sortD (.l ((txsD (gd p 5)).rows++(concD (.l [[gd p 6],[gd p 7]])).rows))).rows)).rows.length:Int)==((sortD (.l ((txsD (gd p 5)).rows++(concD (.l [[gd p 6],[gd p 7]])).rows))).rows.length:Int) then (i_ShardOks0 N p) else ob false
noncomputable def i_ShardOks2 (N:Nat) (p:List D):Out:=nd (leI ((sortD (.l ((txsD (gd p 5)).rows++(concD (.l [[gd p 6],[gd p 7]])).rows))).rows.length:Int) 1000000000) (i_ShardOks1 N p)
noncomputable def i_ShardOks3 (N:Nat) (p:List D):Out:=nd (leI ((sortD (.l ((txsD (gd p 5)).rows++(concD (.l [[gd p 6],[gd p 7]])).rows))).rows.length:Int) 1000000000) (i_ShardOks2 N p)
noncomputable def i_ShardOks4 (N:Nat) (p:List D):Out:=nd (leI (((txsD (gd p 5)).rows++(concD (.l [[gd p 6],[gd p 7]])).rows).length:Int) 1000000000) (i_ShardOks3 N p)
noncomputable def i_ShardOks5 (N:Nat) (p:List D):Out:=nd (lenOk ((txsD (gd p 5)).rows++(concD (.l [[gd p 6],[gd p 7]])).rows)&&true) (i_ShardOks4 N p)
noncomputable def i_ShardOks6 (N:Nat) (p:List D):Out:=bif anyS (fun rr=>ixfSLC (.l [[.l [sub p 0 9],.l [[concD (.l [[gd p 6],[gd p 7]])]]]]) (sub rr 0 4)) (gd p 4) then ob false else nd (leI ((gd p 5).rows.length:Int) 1000000000) (i_ShardOks5 N p)
noncomputable def i_ShardOks7 (N:Nat) (p:List D):Out:=bif anyS (fun rr=>ixfSCC (.l [[.l [sub p 0 9]]]) (sub rr 0 2)) (gd p 3) then ob false else nd (concOk (.l [[gd p 6],[gd p 7]])) (i_ShardOks6 N p)
noncomputable def i_ShardOks8 (N:Nat) (p:List D):Out:=bif anyS (fun rr=>ixfSFC (.l [[.l [sub p 0 9]]]) (sub rr 0 2)) (gd p 2) then ob false else (i_ShardOks7 N p)
noncomputable def i_ShardOks9 (N:Nat) (p:List D):Out:=bif !(ascOk (gd p 7)) then ob false else bif !(inB (gd p 8).int 0 1000000) then ob false else (i_ShardOks8 N p)
noncomputable def i_ShardOks10 (N:Nat) (p:List D):Out:=bif !(heldsOk (sub p 0 9)) then ob false else bif !(ascOk (gd p 6)) then ob false else (i_ShardOks9 N p)
noncomputable def i_ShardOks11 (N:Nat) (p:List D):Out:=bif !(locksOk (gd p 4)) then ob false else nd (leI ((gd p 5).rows.length:Int) 1000000000) (i_ShardOks10 N p)
noncomputable def i_ShardOks12 (N:Nat) (p:List D):Out:=bif !(rangesOk (gd p 2)) then ob false else bif !(storeOk (gd p 3)) then ob false else (i_ShardOks11 N p)
noncomputable def i_ShardOks13 (N:Nat) (p:List D):Out:=bif !(inB (gd p 0).int (0) (3)) then ob false else bif !(rangesOk (gd p 1)) then ob false else (i_ShardOks12 N p)
theorem i_ShardOk_ev (N:Nat) (p:List D):evFn Tryz.prog i_ShardOkT N i_ShardOkK Tryz.f43 rb [⟨ag rIShard,p⟩]=some (bo,(i_ShardOks13 N p)):=by kernel_rfl
def vAt (z:D) (i:Nat):Int:=(gd (z.rows.getD i []) 0).int
theorem numsOf_v (z:D) (i:Nat) (h:i<(numsOf z).length):(numsOf z)[i]=vAt z i:=by
 have h':i<z.rows.length:=by rwa [numsOf_len] at h
 have:=numsOf_at z i h'
 rw [List.getElem?_eq_getElem h] at this
 injection this
theorem hasInt_iff (z:D) (x:Int):hasInt z x=true↔x∈numsOf z:=by
 unfold hasInt anyS
 simp only [List.any_eq_true,List.mem_range,beq_iff_eq]
 constructor
 ·rintro ⟨k,hk,rfl⟩
  have hk':k<(numsOf z).length:=by rwa [numsOf_len]
  exact List.mem_iff_getElem.2 ⟨k,hk',numsOf_v z k hk'⟩
 ·intro h
  obtain ⟨k,hk,rfl⟩:=List.getElem_of_mem h
  exact ⟨k,by rwa [numsOf_len] at hk,numsOf_v z k hk⟩
theorem asc_v {z:D} (h:ascOk z=true):∀ i,i<z.rows.length→(i:Int)+1≤vAt z i∧vAt z i≤60∧∀ j,j<i→vAt z j<vAt z i:=by
 unfold ascOk at h
 rw [List.all_eq_true] at h
 intro i
 induction i with
 | zero =>
  intro hi
  have:=h 0 (List.mem_range.2 hi)
  simp only [ascAt,inB,Bool.and_eq_true,decide_eq_true_eq] at this
  refine ⟨?_,?_,fun j hj=>by omega⟩ <;> unfold vAt <;> omega
 | succ i ih =>
  intro hi
  obtain ⟨h1,h2,h3⟩:=ih (by omega)
  have:=h (i+1) (List.mem_range.2 hi)
  simp only [ascAt,inB,leI,Bool.and_eq_true,decide_eq_true_eq,Bool.not_eq_true',decide_eq_false_iff_not] at this
  unfold vAt at *
  refine ⟨by omega,by omega,fun j hj=>?_⟩
  rcases Nat.lt_or_ge j i with hj' | hj'
  ·have:=h3 j hj'; omega
  ·have:j=i:=by omega
   subst this; omega
theorem asc_len {z:D} (h:ascOk z=true):z.rows.length≤60:=by
 rcases Nat.eq_zero_or_pos z.rows.length with h0 | h0
 ·omega
 ·have:=asc_v h (z.rows.length - 1) (by omega)
  omega
theorem asc_nodup {z:D} (h:ascOk z=true):(numsOf z).Nodup:=by
 refine List.pairwise_iff_getElem.2 fun i j hi hj hij=>?_
 rw [numsOf_v,numsOf_v]
 have:=(asc_v h j (by rwa [numsOf_len] at hj)).2.2 i hij
 omega
def shardAll (p:List D):D:=.l ((txsD (gd p 5)).rows++((gd p 6).rows++(gd p 7).rows))
theorem numsOf_all (p:List D):numsOf (shardAll p)=numsOf (txsD (gd p 5))++(numsOf (gd p 6)++numsOf (gd p 7)):=by
 show List.map _ (_++(_++_))=_
 rw [List.map_append,List.map_append]
 rfl
theorem txs_v (z:D) (i:Nat):vAt (txsD z) i=vAt z i:=by
 unfold vAt txsD
 show (gd ((z.rows.map fun r => [gd r 0]).getD i []) 0).int=_
 rw [List.getD_eq_getElem?_getD,List.getD_eq_getElem?_getD,List.getElem?_map]
 cases z.rows[i]? <;> rfl
theorem txs_len (z:D):(txsD z).rows.length=z.rows.length:=by simp [txsD,D.rows]
def shardApart (p:List D):Bool:=((List.range (gd p 5).rows.length).all fun k => !hasInt (gd p 6) (vAt (gd p 5) k) && !hasInt (gd p 7) (vAt (gd p 5) k))&&((List.range (gd p 6).rows.length).all fun k => !hasInt (gd p 7) (vAt (gd p 6) k))
theorem apart_iff (p:List D) (h5:ascOk (txsD (gd p 5))=true) (h6:ascOk (gd p 6)=true) (h7:ascOk (gd p 7)=true):((compD (sortD (shardAll p))).rows.length==(sortD (shardAll p)).rows.length)=shardApart p:=by
 rw [Bool.eq_iff_iff,beq_iff_eq,comp_sort,numsOf_all]
 have e:shardApart p=true↔(∀ k,k<(gd p 5).rows.length→vAt (gd p 5) k ∉ numsOf (gd p 6)∧vAt (gd p 5) k ∉ numsOf (gd p 7))∧(∀ k,k<(gd p 6).rows.length→vAt (gd p 6) k ∉ numsOf (gd p 7)):=by
  have hn:∀ z x,(!hasInt z x)=true↔x ∉ numsOf z:=fun z x=>by
   rw [← hasInt_iff]; cases hasInt z x <;> simp
  unfold shardApart
  simp only [Bool.and_eq_true,List.all_eq_true,List.mem_range,hn]
 rw [e,List.nodup_append,List.nodup_append]
 have hm:∀ (z:D) (Q:Int→Prop),(∀ a∈numsOf z,Q a)↔∀ k,k<z.rows.length→Q (vAt z k):=fun z Q=>by
  constructor
  ·intro h k hk
   have hk':k<(numsOf z).length:=by rwa [numsOf_len]
   have:=h _ (List.getElem_mem hk')
   rwa [numsOf_v] at this
  ·intro h a ha
   obtain ⟨k,hk,rfl⟩:=List.getElem_of_mem ha
   rw [numsOf_v]
   exact h k (by rwa [numsOf_len] at hk)
 rw [hm (txsD (gd p 5)),hm (gd p 6),txs_len]
 simp only [txs_v]
 constructor
 ·rintro ⟨_,⟨_,_,h3⟩,h4⟩
  exact ⟨fun k hk=>⟨fun h=>h4 k hk _ (List.mem_append.2 (.inl h)) rfl,fun h=>h4 k hk _ (List.mem_append.2 (.inr h)) rfl⟩,fun k hk h=>h3 k hk _ h rfl⟩
 ·rintro ⟨h1,h2⟩
  refine ⟨asc_nodup h5,⟨asc_nodup h6,asc_nodup h7,fun k hk b hb e=>h2 k hk (e▸hb)⟩,fun k hk b hb e=>?_⟩
  subst e
  rcases List.mem_append.1 hb with hb | hb
  ·exact (h1 k hk).1 hb
  ·exact (h1 k hk).2 hb
theorem one_rangeOk {r:List D} (h0:0≤(gd r 0).int) (h1:(gd r 0).int≤999):rangeOk (oneAt r)=true:=by
 show (decide ((gd r 0).int≥0)&&(decide ((gd r 0).int<w64 ((gd r 0).int+1))&&decide (w64 ((gd r 0).int+1)≤1000)))=true
 rw [w64_id (by omega) (by omega)]
 simp only [Bool.and_eq_true,decide_eq_true_eq]
 omega
theorem heldRest_eq {p:List D} {k:Nat} (hz:locksOk (gd p 4)=true):heldRest p k=(heldAt p k&&(!hasInt (gd p 6) (vAt (gd p 5) k) && !hasInt (gd p 7) (vAt (gd p 5) k))):=by
 unfold heldRest heldAt vAt
 cases hw:writesOk (gd ((gd p 5).rows.getD k []) 1) with
 | false=>rfl
 | true =>
  rw [Bool.true_and,Bool.true_and]
  congr 1
  rw [Bool.eq_iff_iff,List.all_eq_true,List.all_eq_true]
  refine forall_congr' fun j=>forall_congr' fun hj=>?_
  unfold writesOk at hw
  simp only [Bool.and_eq_true,List.all_eq_true] at hw
  have hj':=hw.2 j hj
  simp only [writeAt,inB,Bool.and_eq_true,decide_eq_true_eq] at hj'
  rw [hold_same hz (one_rangeOk (by omega) (by omega))]
def shardI (p:List D):Bool:=inB (gd p 0).int 0 3&&(rangesOk (gd p 1)&&(rangesOk (gd p 2)&&(storeOk (gd p 3)&&(locksOk (gd p 4)&&(heldsOk p&&(ascOk (gd p 6)&&(ascOk (gd p 7)&&(inB (gd p 8).int 0 1000000&&(shardA p 2 0 shardC0&&(shardA p 3 2 shardC2&&(shardA p 4 4 shardC4&&(shardApart p&&leI (roomOf p) 60))))))))))))
theorem heldsS_iff {p:List D} (hz:locksOk (gd p 4)=true):heldsOkS p=true↔heldsOk p=true∧∀ k,k<(gd p 5).rows.length→(!hasInt (gd p 6) (vAt (gd p 5) k) && !hasInt (gd p 7) (vAt (gd p 5) k))=true:=by
 unfold heldsOkS heldsOk ascOk
 rw [txs_len]
 simp only [Bool.and_eq_true,List.all_eq_true,List.mem_range]
 have hs:∀ k,heldAtS p k=true↔(heldAt p k=true∧ascAt (txsD (gd p 5)) k=true)∧(!hasInt (gd p 6) (vAt (gd p 5) k) && !hasInt (gd p 7) (vAt (gd p 5) k))=true:=by
  intro k
  have hv:∀ j,(gd ((txsD (gd p 5)).rows.getD j []) 0).int=(gd ((gd p 5).rows.getD j []) 0).int:=fun j=>txs_v (gd p 5) j
  cases k with
  | zero =>
   simp only [heldAtS,ascAt,heldRest_eq hz,hv,Bool.and_eq_true]
   constructor
   ·rintro ⟨a,b,c⟩; exact ⟨⟨b,a⟩,c⟩
   ·rintro ⟨⟨b,a⟩,c⟩; exact ⟨a,b,c⟩
  | succ k =>
   simp only [heldAtS,ascAt,heldRest_eq hz,hv,Bool.and_eq_true]
   constructor
   ·rintro ⟨a,r,b,c⟩; exact ⟨⟨b,a,r⟩,c⟩
   ·rintro ⟨⟨b,a,r⟩,c⟩; exact ⟨a,r,b,c⟩
 simp only [hs,Bool.and_eq_true]
 constructor
 ·intro h; exact ⟨⟨fun k hk=>(h k hk).1.1,fun k hk=>(h k hk).1.2⟩,fun k hk=>(h k hk).2⟩
 ·rintro ⟨⟨h1,h2⟩,h3⟩ k hk; exact ⟨⟨h1 k hk,h2 k hk⟩,h3 k hk⟩
theorem shard_same (p:List D):shardI p=shardOk p:=by
 rw [Bool.eq_iff_iff]
 have hl:∀ {z:D},ascOk z=true→leI (z.rows.length:Int) 60=true:=fun h=>by
  have:=asc_len h
  simp only [leI,decide_eq_true_eq]; omega
 have hasc:heldsOk p=true→leI ((gd p 5).rows.length:Int) 60=true:=fun h=>by
  have h':ascOk (txsD (gd p 5))=true:=by
   unfold heldsOk at h
   simp only [Bool.and_eq_true] at h
   exact h.2
  have:=hl h'
  rwa [txs_len] at this
 have h6:shardA p 6 6 shardC6=true↔((List.range (gd p 6).rows.length).all fun k => !hasInt (gd p 7) (vAt (gd p 6) k))=true:=Iff.rfl
 have hap:shardApart p=true↔(∀ k,k<(gd p 5).rows.length→(!hasInt (gd p 6) (vAt (gd p 5) k) && !hasInt (gd p 7) (vAt (gd p 5) k))=true)∧shardA p 6 6 shardC6=true:=by
  rw [h6]
  unfold shardApart
  rw [Bool.and_eq_true,List.all_eq_true]
  simp only [List.mem_range]
 have hsum:shardSum p=true↔heldsOkS p=true∧leI (roomOf p) 60=true:=by
  unfold shardSum roomOf
  rw [Bool.and_eq_true]
 unfold shardI shardOk
 simp only [Bool.and_eq_true,hap,hsum]
 constructor
 ·rintro ⟨a0,a1,a2,a3,a4,a5,a6,a7,a8,b0,b2,b4,⟨c1,c2⟩,d⟩
  exact ⟨a0,a1,a2,a3,a4,a8,hasc a5,hl a6,hl a7,a6,a7,b0,b2,b4,c2,(heldsS_iff a4).2 ⟨a5,fun k hk=>by simpa using c1 k hk⟩,d⟩
 ·rintro ⟨a0,a1,a2,a3,a4,a8,_,_,_,a6,a7,b0,b2,b4,c2,hs,d⟩
  obtain ⟨a5,c1⟩:=(heldsS_iff a4).1 hs
  exact ⟨a0,a1,a2,a3,a4,a5,a6,a7,a8,b0,b2,b4,⟨fun k hk=>by simpa using c1 k hk,c2⟩,d⟩
theorem have_same {z:D} {q:List D} (hz:rangesOk z=true) (hq:rangeOk q=true):haveAll z q=rangesHave z q:=by
 unfold rangesHave
 rw [hz,hq]
 rfl
theorem ranges_at {z:D} {k:Nat} (hz:rangesOk z=true) (hk:k<z.rows.length):rangeOk (sub (z.rows.getD k []) 0 2)=true:=by
 unfold rangesOk at hz
 simp only [Bool.and_eq_true,List.all_eq_true,List.mem_range] at hz
 have:=hz.1 k hk
 cases k with
 | zero=>exact this
 | succ k=>simp only [rangesAt,Bool.and_eq_true] at this; exact this.1
theorem store_key {z:D} {k:Nat} (hz:storeOk z=true) (hk:k<z.rows.length):0≤(gd (z.rows.getD k []) 0).int∧(gd (z.rows.getD k []) 0).int≤999:=by
 unfold storeOk at hz
 simp only [Bool.and_eq_true,List.all_eq_true,List.mem_range] at hz
 have:=hz.1 k hk
 cases k with
 | zero=>simp only [storeAt,inB,Bool.and_eq_true,decide_eq_true_eq] at this; omega
 | succ k=>simp only [storeAt,inB,Bool.and_eq_true,decide_eq_true_eq] at this; omega
theorem locks_at {z:D} {k:Nat} (hz:locksOk z=true) (hk:k<z.rows.length):rangeOk [gd (z.rows.getD k []) 1,gd (z.rows.getD k []) 2]=true:=by
 unfold locksOk at hz
 simp only [Bool.and_eq_true,List.all_eq_true,List.mem_range] at hz
 have:=hz.1 k hk
 simp only [lockAt,Bool.and_eq_true] at this
 exact this.2.1
theorem anyS_not {C:List D→Bool} {z:D} {A:Nat→Bool} (h:∀ k,k<z.rows.length→C (z.rows.getD k []) = !A k):anyS C z = !(List.range z.rows.length).all A:=by
 unfold anyS
 rw [Bool.eq_iff_iff]
 simp only [List.any_eq_true,List.mem_range,Bool.not_eq_true',← Bool.not_eq_true,List.all_eq_true]
 constructor
 ·rintro ⟨k,hk,hc⟩ ha
  rw [h k hk,ha k hk] at hc
  cases hc
 ·intro hn
  refine Classical.byContradiction fun hne=>hn fun k hk=>?_
  cases hA:A k with
  | true=>rfl
  | false=>exact absurd ⟨k,hk,by rw [h k hk,hA]; rfl⟩ hne
theorem hasInt_app (a b:List (List D)) (x:Int):hasInt (.l (a++b)) x=(hasInt (.l a) x||hasInt (.l b) x):=by
 have e:numsOf (.l (a++b))=numsOf (.l a)++numsOf (.l b):=List.map_append
 rw [Bool.eq_iff_iff,Bool.or_eq_true,hasInt_iff,hasInt_iff,hasInt_iff,e,List.mem_append]
theorem hasInt_rows (z:D) (x:Int):hasInt (.l z.rows) x=hasInt z x:=rfl
theorem shard_f (p:List D) (h1:rangesOk (gd p 1)=true) (h2:rangesOk (gd p 2)=true):anyS (fun rr=>ixfSFC (.l [[.l [sub p 0 9]]]) (sub rr 0 2)) (gd p 2) = !(shardA p 2 0 shardC0):=by
 refine anyS_not fun k hk=>?_
 show (!(haveAll (gd p 1) (sub ((gd p 2).rows.getD k []) 0 2)))=_
 rw [have_same h1 (ranges_at h2 hk)]
 rfl
theorem shard_c (p:List D) (h1:rangesOk (gd p 1)=true) (h3:storeOk (gd p 3)=true):anyS (fun rr=>ixfSCC (.l [[.l [sub p 0 9]]]) (sub rr 0 2)) (gd p 3) = !(shardA p 3 2 shardC2):=by
 refine anyS_not fun k hk=>?_
 show (!(haveAll (gd p 1) (oneAt ((gd p 3).rows.getD k []))))=_
 have:=store_key h3 hk
 rw [have_same h1 (one_rangeOk this.1 this.2)]
 rfl
theorem shard_l (p:List D) (h1:rangesOk (gd p 1)=true) (h4:locksOk (gd p 4)=true):anyS (fun rr=>ixfSLC (.l [[.l [sub p 0 9],.l [[concD (.l [[gd p 6],[gd p 7]])]]]]) (sub rr 0 4)) (gd p 4) = !(shardA p 4 4 shardC4):=by
 refine anyS_not fun k hk=>?_
 show (bif !(haveAll (gd p 1) [gd ((gd p 4).rows.getD k []) 1,gd ((gd p 4).rows.getD k []) 2]) then true else hasInt (.l ((gd p 6).rows++(gd p 7).rows)) (gd ((gd p 4).rows.getD k []) 0).int)=_
 rw [have_same h1 (locks_at h4 hk),hasInt_app,hasInt_rows,hasInt_rows]
 unfold shardC4
 cases rangesHave (gd p 1) [gd ((gd p 4).rows.getD k []) 1,gd ((gd p 4).rows.getD k []) 2] <;> cases hasInt (gd p 6) (gd ((gd p 4).rows.getD k []) 0).int <;> cases hasInt (gd p 7) (gd ((gd p 4).rows.getD k []) 0).int <;> rfl
def shardSmall (p:List D):Bool:=leI ((gd p 3).rows.length:Int) 100000000&&(leI ((gd p 5).rows.length:Int) 100000000&&(leI ((gd p 6).rows.length:Int) 100000000&&leI ((gd p 7).rows.length:Int) 100000000))
theorem ob_step2 {a c g:Bool} {x:Out} (hc:c = !a) (h:a=true→x=ob g):(bif c then ob false else x)=ob (a&&g):=by
 subst hc
 exact ob_step h
def i_ShardOkE:Ent:=(43,e1 (ag rIShard) fun p=>(⟨rb,[.b (shardOk p)]⟩,shardSmall p))
theorem i_ShardOk_ok:EntOk Tryz.prog i_ShardOkE:=e1_ok fun p h=>evFn_sound (N:=0) (ks:=i_ShardOkK) (key:=bo) i_ShardOkT_ok (enters Tryz.func43) Tryz.func43 fun hw=>by
 rw [i_ShardOk_ev]
 have h:shardSmall p=true:=h
 unfold shardSmall at h
 simp only [Bool.and_eq_true,leI,decide_eq_true_eq] at h
 obtain ⟨h3,h5,h6,h7⟩:=h
 refine congrArg (fun x=>some (bo,x)) ?_
 show i_ShardOks13 0 p=ob (shardOk p)
 have l9:leI ((gd p 5).rows.length:Int) 1000000000=true:=leI_t (by omega)
 have lall:(shardAll p).rows.length=(gd p 5).rows.length+((gd p 6).rows.length+(gd p 7).rows.length):=by
  show ((txsD (gd p 5)).rows++((gd p 6).rows++(gd p 7).rows)).length=_
  rw [List.length_append,List.length_append,txs_len]
 have lsort:(sortD (shardAll p)).rows.length=(shardAll p).rows.length:=by rw [sortD,numsD_len,sortL_len,numsOf_len]
 rw [← shard_same]
 unfold i_ShardOks13 i_ShardOks12 shardI
 refine ob_step fun _=>ob_step fun a1=>ob_step fun a2=>ob_step fun a3=>?_
 unfold i_ShardOks11
 refine ob_step fun a4=>?_
 rw [l9,nd_true]
 unfold i_ShardOks10
 refine ob_step (a:=heldsOk p) fun a5=>ob_step fun a6=>?_
 unfold i_ShardOks9
 refine ob_step fun a7=>ob_step fun _=>?_
 unfold i_ShardOks8
 refine ob_step2 (shard_f p a1 a2) fun _=>?_
 unfold i_ShardOks7
 refine ob_step2 (shard_c p a1 a3) fun _=>?_
 have hcc:concOk (.l [[gd p 6],[gd p 7]])=true:=by
  show (true&&(leI ((gd p 6).rows.length:Int) 100000000&&leI ((gd p 7).rows.length:Int) 100000000))=true
  rw [leI_t (by omega),leI_t (by omega)]
  rfl
 rw [hcc,nd_true]
 unfold i_ShardOks6
 refine ob_step2 (shard_l p a1 a4) fun _=>?_
 rw [l9,nd_true]
 unfold heldsOk at a5
 simp only [Bool.and_eq_true] at a5
 show nd (lenOk (shardAll p).rows&&true) (i_ShardOks4 0 p)=_
 rw [lenOk_t (by omega)]
 show nd (leI ((shardAll p).rows.length:Int) 1000000000) (nd (leI ((sortD (shardAll p)).rows.length:Int) 1000000000) (nd (leI ((sortD (shardAll p)).rows.length:Int) 1000000000) (bif ((compD (sortD (shardAll p))).rows.length:Int)==((sortD (shardAll p)).rows.length:Int) then (nd (leI ((gd p 3).rows.length:Int) 1000000000&&leI ((gd p 5).rows.length:Int) 1000000000) (ob (leI (roomOf p) 60))) else ob false)))=_
 rw [lsort,leI_t (by omega),nd_true,nd_true,nd_true,leI_t (by omega),l9,Bool.and_self,nd_true,← lsort]
 have e:=apart_iff p a5.2 a6 a7
 rw [← e]
 have e':(((compD (sortD (shardAll p))).rows.length:Int)==((sortD (shardAll p)).rows.length:Int))=((compD (sortD (shardAll p))).rows.length==(sortD (shardAll p)).rows.length):=by
  rw [Bool.eq_iff_iff,beq_iff_eq,beq_iff_eq]; omega
 rw [e']
 cases (compD (sortD (shardAll p))).rows.length==(sortD (shardAll p)).rows.length <;> rfl
end Go.Proofs.YtpdfmcmnjikppaaGreat
namespace Go.Proofs.YtpdfmcmnjikppaaGreat
set_option maxRecDepth 4096
set_option maxHeartbeats 1000000
end Go.Proofs.YtpdfmcmnjikppaaGreat
namespace Go.Proofs.YtpdfmcmnjikppaaGreat
theorem mapD_len (f:List D→List D) (z:D):(D.l (z.rows.map f)).rows.length=z.rows.length:=List.length_map ..
end Go.Proofs.YtpdfmcmnjikppaaGreat
namespace Go.Proofs.YtpdfmcmnjikppaaGreat
set_option maxRecDepth 4096
set_option maxHeartbeats 1000000
abbrev i_haveAny_1T:FuncId→List T→Option (T × Bool):=find [i_meetsE]
theorem i_haveAny_1T_ok:CallOk Tryz.prog i_haveAny_1T:=find_ok (fC ⟨i_meets_ok,fN⟩)
abbrev i_haveAny_1K:List Nat:= [0,1,2,3]
theorem i_haveAny_1_ev (N:Nat) (p q:List D):evFn Tryz.prog i_haveAny_1T N i_haveAny_1K Tryz.f222 rb [⟨ag rIRange,p⟩,⟨.one (.c (.cptr [si,si] 0)),q⟩]=some (bo,
 ob (i_meetsF (sub ((gd q 0).rows.getD 0 []) 0 2) (sub p 0 2))):=by kernel_rfl
def i_haveAny_1F (p q:List D):Bool:=
 i_meetsF (sub ((gd q 0).rows.getD 0 []) 0 2) (sub p 0 2)
def i_haveAny_1E:Ent:=(222,e2 (ag rIRange) (.one (.c (.cptr [si,si] 0))) fun p q=>(⟨rb,[.b (i_haveAny_1F p [gd q 0])]⟩,true))
theorem i_haveAny_1_ok:EntOk Tryz.prog i_haveAny_1E:=e2_ok fun p q h=>evFn_sound (N:=0) (ks:=i_haveAny_1K) (key:=bo) i_haveAny_1T_ok (enters Tryz.func222) Tryz.func222 fun hw=>by
 rw [i_haveAny_1_ev]
 try simp only [cond_ob,cond_oi,cond_os]
 rfl
abbrev ixfHAT:FuncId→List T→Option (T × Bool):=find [i_haveAny_1E]
theorem ixfHAT_ok:CallOk Tryz.prog ixfHAT:=find_ok (fC ⟨i_haveAny_1_ok,fN⟩)
abbrev ixfHAK:List Nat:= [0,1,4,5,7,8,9,16]
noncomputable def ixfHAL0 (N:Nat) (p q:List D):List D→Out:=loopOf Tryz.prog ixfHAT N ixfHAK Tryz.f207 ri [⟨sd (.sl 41),p⟩,⟨.one (.c (.fn 222 [.cptr [si,si] 0])),q⟩] 0
theorem ixfHAR0 (N:Nat) (p q:List D) (x0 x1 x2 x3 x4:D):(ixfHAL0 N p q) [x0,x1,x2,x3,x4] =
 bif ltI x4.int x3.int then nd (inRange x4.int x0.rows.length) (bif i_haveAny_1F (sub (x0.rows.getD x4.int.toNat []) 0 2) [gd (x1.rows.getD 0 []) 0] then some (1,[x4])
 else nx [x0,x1,x2,x3,.i (w64 (x4.int+1))])
 else ex 0 [x0,x1,x2,x3,x4]:=by kernel_rfl
theorem ixfHA_ev (N:Nat) (p q:List D):evFn Tryz.prog ixfHAT N ixfHAK Tryz.f207 ri [⟨sd (.sl 41),p⟩,⟨.one (.c (.fn 222 [.cptr [si,si] 0])),q⟩]=some (bo,
 (let o0:=iter (ixfHAL0 N p q) N [gd p 0,gd q 0,.i 0,.i ((gd p 0).rows.length:Int),.i 0]
  nd o0.isSome (bif o0.code==1 then some (1,o0.pay)
  else nd (o0.code==2) (oi (-1))))):=by kernel_rfl
def ixfHAC (c:D) (r:List D):Bool:=i_haveAny_1F r [gd (c.rows.getD 0 []) 0]
def ixfHAE:Ent:=(207,e2 (sd (.sl 41)) (.one (.c (.fn 222 [.cptr [si,si] 0]))) fun p q=>(⟨ri,[.i (ixF (fun k=>ixfHAC (gd q 0) (sub ((gd p 0).rows.getD k []) 0 2)) 0 (gd p 0).rows.length)]⟩,true))
theorem ixfHA_ok:EntOk Tryz.prog ixfHAE:=e2_ok fun p q h=>evFn_sound (N:=(gd p 0).rows.length+1) (ks:=ixfHAK) (key:=bo) ixfHAT_ok (enters Tryz.func207) Tryz.func207 fun hw=>by
 rw [ixfHA_ev]
 have hl:=wt_sl (hw ⟨sd (.sl 41),p⟩ (by simp))
 have e:=ix_loop (L:=ixfHAL0 ((gd p 0).rows.length+1) p q) (fun k => [gd p 0,gd q 0,.i 0,.i ((gd p 0).rows.length:Int),.i (k:Int)]) (gd p 0).rows.length (fun k=>ixfHAC (gd q 0) (sub ((gd p 0).rows.getD k []) 0 2)) [gd p 0,gd q 0,.i 0,.i ((gd p 0).rows.length:Int),.i ((gd p 0).rows.length:Int)] (fun k hk=>?_) ?_ (gd p 0).rows.length 0 ((gd p 0).rows.length+1) (by omega) (by omega)
 ·simp only [Int.natCast_zero] at e
  rw [e]
  have hno:=ixF_neg (fun k=>ixfHAC (gd q 0) (sub ((gd p 0).rows.getD k []) 0 2)) (gd p 0).rows.length 0
  cases hd:decide (ixF (fun k=>ixfHAC (gd q 0) (sub ((gd p 0).rows.getD k []) 0 2)) 0 (gd p 0).rows.length≥0)
  ·rw [hno hd]; rfl
  ·rfl
 ·show ixfHAL0 _ p q [_,_,_,_,.i (k:Int)]=_
  rw [ixfHAR0]
  simp only [int_i,c_lt hk,nd_ix hk,w64_succ hk hl,Int.toNat_natCast]
  unfold ixfHAC
  cases i_haveAny_1F (sub ((gd p 0).rows.getD k []) 0 2) [gd ((gd q 0).rows.getD 0 []) 0] <;> rfl
 ·show ixfHAL0 _ p q [_,_,_,.i ((gd p 0).rows.length:Int),.i ((gd p 0).rows.length:Int)]=_
  rw [ixfHAR0]
  simp only [int_i,c_nlt]
abbrev cofHAT:FuncId→List T→Option (T × Bool):=find [ixfHAE,i_haveAny_1E]
theorem cofHAT_ok:CallOk Tryz.prog cofHAT:=find_ok (fC ⟨ixfHA_ok,fC ⟨i_haveAny_1_ok,fN⟩⟩)
abbrev cofHAK:List Nat:= [0,1,4]
theorem cofHA_ev (N:Nat) (p q:List D):evFn Tryz.prog cofHAT N cofHAK Tryz.f106 rb [⟨sd (.sl 41),p⟩,⟨.one (.c (.fn 222 [.cptr [si,si] 0])),q⟩]=some (bo,
 ob (leI 0 (ixF (fun k=>ixfHAC (.l [[gd ((gd q 0).rows.getD 0 []) 0]]) (sub ((gd p 0).rows.getD k []) 0 2)) 0 (gd p 0).rows.length))):=by kernel_rfl
def cofHAE:Ent:=(106,e2 (sd (.sl 41)) (.one (.c (.fn 222 [.cptr [si,si] 0]))) fun p q=>(⟨rb,[.b (anyS (fun rr=>ixfHAC (gd q 0) (sub rr 0 2)) (gd p 0))]⟩,true))
theorem cofHA_ok:EntOk Tryz.prog cofHAE:=e2_ok fun p q h=>evFn_sound (N:=0) (ks:=cofHAK) (key:=bo) cofHAT_ok (enters Tryz.func106) Tryz.func106 fun hw=>by
 rw [cofHA_ev]
 refine congrArg (fun x=>some (bo,ob x)) ?_
 exact (ixF_any (fun k=>ixfHAC (gd q 0) (sub ((gd p 0).rows.getD k []) 0 2)) (gd p 0).rows.length 0).trans (by simp only [Nat.zero_add]; rfl)
abbrev i_haveAnyT:FuncId→List T→Option (T × Bool):=find [cofHAE]
theorem i_haveAnyT_ok:CallOk Tryz.prog i_haveAnyT:=find_ok (fC ⟨cofHA_ok,fN⟩)
abbrev i_haveAnyK:List Nat:= [0,1,3,4]
theorem i_haveAny_ev (N:Nat) (p q:List D):evFn Tryz.prog i_haveAnyT N i_haveAnyK Tryz.f131 rb [⟨sd (.sl 41),p⟩,⟨ag rIRange,q⟩]=some (bo,
 ob (anyS (fun rr=>ixfHAC (.l [[.l [sub q 0 2]]]) (sub rr 0 2)) (gd p 0))):=by kernel_rfl
def haveAnyB (z:D) (q:List D):Bool:=(List.range z.rows.length).any fun k=>i_meetsF q (sub (z.rows.getD k []) 0 2)
def i_haveAnyE:Ent:=(131,e2 (sd (.sl 41)) (ag rIRange) fun p q=>(⟨rb,[.b (haveAnyB (gd p 0) q)]⟩,true))
theorem i_haveAny_ok:EntOk Tryz.prog i_haveAnyE:=e2_ok fun p q h=>evFn_sound (N:=0) (ks:=i_haveAnyK) (key:=bo) i_haveAnyT_ok (enters Tryz.func131) Tryz.func131 fun hw=>by
 rw [i_haveAny_ev]
 rfl
abbrev s_l10TouchT:FuncId→List T→Option (T × Bool):=find [s_RangeMeetE]
theorem s_l10TouchT_ok:CallOk Tryz.prog s_l10TouchT:=find_ok (fC ⟨s_RangeMeet_ok,fN⟩)
abbrev s_l10TouchK:List Nat:= [0,1,3,4,5,7,11,23]
noncomputable def s_l10TouchL0 (N:Nat) (p q:List D):List D→Out:=loopOf Tryz.prog s_l10TouchT N s_l10TouchK Tryz.f124 rb [⟨sd (.sl 41),p⟩,⟨ag rIRange,q⟩] 0
theorem s_l10TouchR0 (N:Nat) (p q:List D) (x0 x1 x2 x3 x4 x5 x6 x7:D):(s_l10TouchL0 N p q) [x0,x1,x2,x3,x4,x5,x6,x7] =
 bif ltI x5.int (x0.rows.length:Int) then nd ((inRange x5.int x0.rows.length)&&true) (nd (((inRange x5.int x0.rows.length)&&true)&&(sameP [[gd (sub (meetR (sub (x0.rows.getD x5.int.toNat []) 0 2) [x6,x7]) 0 3) 2],[.i 0],[gd (sub (meetR (sub (x0.rows.getD x5.int.toNat []) 0 2) [x6,x7]) 0 3) 2],[gd (sub (meetR (sub (x0.rows.getD x5.int.toNat []) 0 2) [x6,x7]) 0 3) 0,gd (sub (meetR (sub (x0.rows.getD x5.int.toNat []) 0 2) [x6,x7]) 0 3) 1],[gd (sub (meetR (sub (x0.rows.getD x5.int.toNat []) 0 2) [x6,x7]) 0 3) 0,gd (sub (meetR (sub (x0.rows.getD x5.int.toNat []) 0 2) [x6,x7]) 0 3) 1,gd (sub (meetR (sub (x0.rows.getD x5.int.toNat []) 0 2) [x6,x7]) 0 3) 2],[gd (sub (meetR (sub (x0.rows.getD x5.int.toNat []) 0 2) [x6,x7]) 0 3) 0,gd (sub (meetR (sub (x0.rows.getD x5.int.toNat []) 0 2) [x6,x7]) 0 3) 1,gd (sub (meetR (sub (x0.rows.getD x5.int.toNat []) 0 2) [x6,x7]) 0 3) 2],[x6,x7],[gd (x0.rows.getD x5.int.toNat []) 0,gd (x0.rows.getD x5.int.toNat []) 1],[.l [[.l x0.rows,.i x5.int]]],[x5],[x0],[x0],[x1,x2],[x3],[x4],[x5],[.b (ltI x5.int (x0.rows.length:Int))],[x6,x7],[gd (sub (meetR (sub (x0.rows.getD x5.int.toNat []) 0 2) [x6,x7]) 0 3) 0,gd (sub (meetR (sub (x0.rows.getD x5.int.toNat []) 0 2) [x6,x7]) 0 3) 1]] [[gd (sub (meetR (sub (x0.rows.getD x5.int.toNat []) 0 2) [x6,x7]) 0 3) 2],[.i 0],[gd (sub (meetR (sub (x0.rows.getD x5.int.toNat []) 0 2) [x6,x7]) 0 3) 2],[gd (sub (meetR (sub (x0.rows.getD x5.int.toNat []) 0 2) [x6,x7]) 0 3) 0,gd (sub (meetR (sub (x0.rows.getD x5.int.toNat []) 0 2) [x6,x7]) 0 3) 1],[gd (sub (meetR (sub (x0.rows.getD x5.int.toNat []) 0 2) [x6,x7]) 0 3) 0,gd (sub (meetR (sub (x0.rows.getD x5.int.toNat []) 0 2) [x6,x7]) 0 3) 1,gd (sub (meetR (sub (x0.rows.getD x5.int.toNat []) 0 2) [x6,x7]) 0 3) 2],[gd (sub (meetR (sub (x0.rows.getD x5.int.toNat []) 0 2) [x6,x7]) 0 3) 0,gd (sub (meetR (sub (x0.rows.getD x5.int.toNat []) 0 2) [x6,x7]) 0 3) 1,gd (sub (meetR (sub (x0.rows.getD x5.int.toNat []) 0 2) [x6,x7]) 0 3) 2],[x6,x7],[gd (x0.rows.getD x5.int.toNat []) 0,gd (x0.rows.getD x5.int.toNat []) 1],[.l [[.l x0.rows,.i x5.int]]],[x5],[x0],[x0],[x1,x2],[x3],[x4],[x5],[.b (ltI x5.int (x0.rows.length:Int))],[x6,x7],[gd (sub (meetR (sub (x0.rows.getD x5.int.toNat []) 0 2) [x6,x7]) 0 3) 0,gd (sub (meetR (sub (x0.rows.getD x5.int.toNat []) 0 2) [x6,x7]) 0 3) 1]])) (nd (((inRange x5.int x0.rows.length)&&true)&&(sameP [[gd (sub (meetR (sub (x0.rows.getD x5.int.toNat []) 0 2) [x6,x7]) 0 3) 2],[.i 0],[gd (sub (meetR (sub (x0.rows.getD x5.int.toNat []) 0 2) [x6,x7]) 0 3) 2],[gd (sub (meetR (sub (x0.rows.getD x5.int.toNat []) 0 2) [x6,x7]) 0 3) 0,gd (sub (meetR (sub (x0.rows.getD x5.int.toNat []) 0 2) [x6,x7]) 0 3) 1],[gd (sub (meetR (sub (x0.rows.getD x5.int.toNat []) 0 2) [x6,x7]) 0 3) 0,gd (sub (meetR (sub (x0.rows.getD x5.int.toNat []) 0 2) [x6,x7]) 0 3) 1,gd (sub (meetR (sub (x0.rows.getD x5.int.toNat []) 0 2) [x6,x7]) 0 3) 2],[gd (sub (meetR (sub (x0.rows.getD x5.int.toNat []) 0 2) [x6,x7]) 0 3) 0,gd (sub (meetR (sub (x0.rows.getD x5.int.toNat []) 0 2) [x6,x7]) 0 3) 1,gd (sub (meetR (sub (x0.rows.getD x5.int.toNat []) 0 2) [x6,x7]) 0 3) 2],[x6,x7],[gd (x0.rows.getD x5.int.toNat []) 0,gd (x0.rows.getD x5.int.toNat []) 1],[.l [[.l x0.rows,.i x5.int]]],[x5],[x0],[x0],[x1,x2],[x3],[x4],[x5],[.b (ltI x5.int (x0.rows.length:Int))],[x6,x7],[gd (sub (meetR (sub (x0.rows.getD x5.int.toNat []) 0 2) [x6,x7]) 0 3) 0,gd (sub (meetR (sub (x0.rows.getD x5.int.toNat []) 0 2) [x6,x7]) 0 3) 1]] [[gd (sub (meetR (sub (x0.rows.getD x5.int.toNat []) 0 2) [x6,x7]) 0 3) 2],[.i 0],[gd (sub (meetR (sub (x0.rows.getD x5.int.toNat []) 0 2) [x6,x7]) 0 3) 2],[gd (sub (meetR (sub (x0.rows.getD x5.int.toNat []) 0 2) [x6,x7]) 0 3) 0,gd (sub (meetR (sub (x0.rows.getD x5.int.toNat []) 0 2) [x6,x7]) 0 3) 1],[gd (sub (meetR (sub (x0.rows.getD x5.int.toNat []) 0 2) [x6,x7]) 0 3) 0,gd (sub (meetR (sub (x0.rows.getD x5.int.toNat []) 0 2) [x6,x7]) 0 3) 1,gd (sub (meetR (sub (x0.rows.getD x5.int.toNat []) 0 2) [x6,x7]) 0 3) 2],[gd (sub (meetR (sub (x0.rows.getD x5.int.toNat []) 0 2) [x6,x7]) 0 3) 0,gd (sub (meetR (sub (x0.rows.getD x5.int.toNat []) 0 2) [x6,x7]) 0 3) 1,gd (sub (meetR (sub (x0.rows.getD x5.int.toNat []) 0 2) [x6,x7]) 0 3) 2],[x6,x7],[gd (x0.rows.getD x5.int.toNat []) 0,gd (x0.rows.getD x5.int.toNat []) 1],[.l [[.l x0.rows,.i x5.int]]],[x5],[x0],[x0],[x1,x2],[x3],[x4],[x5],[.b (ltI x5.int (x0.rows.length:Int))],[x6,x7],[gd (sub (meetR (sub (x0.rows.getD x5.int.toNat []) 0 2) [x6,x7]) 0 3) 0,gd (sub (meetR (sub (x0.rows.getD x5.int.toNat []) 0 2) [x6,x7]) 0 3) 1]])) (nd (((inRange x5.int x0.rows.length)&&true)&&(sameP [[gd (sub (meetR (sub (x0.rows.getD x5.int.toNat []) 0 2) [x6,x7]) 0 3) 2],[.i 0],[gd (sub (meetR (sub (x0.rows.getD x5.int.toNat []) 0 2) [x6,x7]) 0 3) 2],[gd (sub (meetR (sub (x0.rows.getD x5.int.toNat []) 0 2) [x6,x7]) 0 3) 0,gd (sub (meetR (sub (x0.rows.getD x5.int.toNat []) 0 2) [x6,x7]) 0 3) 1],[gd (sub (meetR (sub (x0.rows.getD x5.int.toNat []) 0 2) [x6,x7]) 0 3) 0,gd (sub (meetR (sub (x0.rows.getD x5.int.toNat []) 0 2) [x6,x7]) 0 3) 1,gd (sub (meetR (sub (x0.rows.getD x5.int.toNat []) 0 2) [x6,x7]) 0 3) 2],[gd (sub (meetR (sub (x0.rows.getD x5.int.toNat []) 0 2) [x6,x7]) 0 3) 0,gd (sub (meetR (sub (x0.rows.getD x5.int.toNat []) 0 2) [x6,x7]) 0 3) 1,gd (sub (meetR (sub (x0.rows.getD x5.int.toNat []) 0 2) [x6,x7]) 0 3) 2],[x6,x7],[gd (x0.rows.getD x5.int.toNat []) 0,gd (x0.rows.getD x5.int.toNat []) 1],[.l [[.l x0.rows,.i x5.int]]],[x5],[x0],[x0],[x1,x2],[x3],[x4],[x5],[.b (ltI x5.int (x0.rows.length:Int))],[x6,x7],[gd (sub (meetR (sub (x0.rows.getD x5.int.toNat []) 0 2) [x6,x7]) 0 3) 0,gd (sub (meetR (sub (x0.rows.getD x5.int.toNat []) 0 2) [x6,x7]) 0 3) 1]] [[gd (sub (meetR (sub (x0.rows.getD x5.int.toNat []) 0 2) [x6,x7]) 0 3) 2],[.i 0],[gd (sub (meetR (sub (x0.rows.getD x5.int.toNat []) 0 2) [x6,x7]) 0 3) 2],[gd (sub (meetR (sub (x0.rows.getD x5.int.toNat []) 0 2) [x6,x7]) 0 3) 0,gd (sub (meetR (sub (x0.rows.getD x5.int.toNat []) 0 2) [x6,x7]) 0 3) 1],[gd (sub (meetR (sub (x0.rows.getD x5.int.toNat []) 0 2) [x6,x7]) 0 3) 0,gd (sub (meetR (sub (x0.rows.getD x5.int.toNat []) 0 2) [x6,x7]) 0 3) 1,gd (sub (meetR (sub (x0.rows.getD x5.int.toNat []) 0 2) [x6,x7]) 0 3) 2],[gd (sub (meetR (sub (x0.rows.getD x5.int.toNat []) 0 2) [x6,x7]) 0 3) 0,gd (sub (meetR (sub (x0.rows.getD x5.int.toNat []) 0 2) [x6,x7]) 0 3) 1,gd (sub (meetR (sub (x0.rows.getD x5.int.toNat []) 0 2) [x6,x7]) 0 3) 2],[x6,x7],[gd (x0.rows.getD x5.int.toNat []) 0,gd (x0.rows.getD x5.int.toNat []) 1],[.l [[.l x0.rows,.i x5.int]]],[x5],[x0],[x0],[x1,x2],[x3],[x4],[x5],[.b (ltI x5.int (x0.rows.length:Int))],[x6,x7],[gd (sub (meetR (sub (x0.rows.getD x5.int.toNat []) 0 2) [x6,x7]) 0 3) 0,gd (sub (meetR (sub (x0.rows.getD x5.int.toNat []) 0 2) [x6,x7]) 0 3) 1]])) (nd (((inRange x5.int x0.rows.length)&&true)&&(sameP [[gd (sub (meetR (sub (x0.rows.getD x5.int.toNat []) 0 2) [x6,x7]) 0 3) 2],[.i 0],[gd (sub (meetR (sub (x0.rows.getD x5.int.toNat []) 0 2) [x6,x7]) 0 3) 2],[gd (sub (meetR (sub (x0.rows.getD x5.int.toNat []) 0 2) [x6,x7]) 0 3) 0,gd (sub (meetR (sub (x0.rows.getD x5.int.toNat []) 0 2) [x6,x7]) 0 3) 1],[gd (sub (meetR (sub (x0.rows.getD x5.int.toNat []) 0 2) [x6,x7]) 0 3) 0,gd (sub (meetR (sub (x0.rows.getD x5.int.toNat []) 0 2) [x6,x7]) 0 3) 1,gd (sub (meetR (sub (x0.rows.getD x5.int.toNat []) 0 2) [x6,x7]) 0 3) 2],[gd (sub (meetR (sub (x0.rows.getD x5.int.toNat []) 0 2) [x6,x7]) 0 3) 0,gd (sub (meetR (sub (x0.rows.getD x5.int.toNat []) 0 2) [x6,x7]) 0 3) 1,gd (sub (meetR (sub (x0.rows.getD x5.int.toNat []) 0 2) [x6,x7]) 0 3) 2],[x6,x7],[gd (x0.rows.getD x5.int.toNat []) 0,gd (x0.rows.getD x5.int.toNat []) 1],[.l [[.l x0.rows,.i x5.int]]],[x5],[x0],[x0],[x1,x2],[x3],[x4],[x5],[.b (ltI x5.int (x0.rows.length:Int))],[x6,x7],[gd (sub (meetR (sub (x0.rows.getD x5.int.toNat []) 0 2) [x6,x7]) 0 3) 0,gd (sub (meetR (sub (x0.rows.getD x5.int.toNat []) 0 2) [x6,x7]) 0 3) 1]] [[gd (sub (meetR (sub (x0.rows.getD x5.int.toNat []) 0 2) [x6,x7]) 0 3) 2],[.i 0],[gd (sub (meetR (sub (x0.rows.getD x5.int.toNat []) 0 2) [x6,x7]) 0 3) 2],[gd (sub (meetR (sub (x0.rows.getD x5.int.toNat []) 0 2) [x6,x7]) 0 3) 0,gd (sub (meetR (sub (x0.rows.getD x5.int.toNat []) 0 2) [x6,x7]) 0 3) 1],[gd (sub (meetR (sub (x0.rows.getD x5.int.toNat []) 0 2) [x6,x7]) 0 3) 0,gd (sub (meetR (sub (x0.rows.getD x5.int.toNat []) 0 2) [x6,x7]) 0 3) 1,gd (sub (meetR (sub (x0.rows.getD x5.int.toNat []) 0 2) [x6,x7]) 0 3) 2],[gd (sub (meetR (sub (x0.rows.getD x5.int.toNat []) 0 2) [x6,x7]) 0 3) 0,gd (sub (meetR (sub (x0.rows.getD x5.int.toNat []) 0 2) [x6,x7]) 0 3) 1,gd (sub (meetR (sub (x0.rows.getD x5.int.toNat []) 0 2) [x6,x7]) 0 3) 2],[x6,x7],[gd (x0.rows.getD x5.int.toNat []) 0,gd (x0.rows.getD x5.int.toNat []) 1],[.l [[.l x0.rows,.i x5.int]]],[x5],[x0],[x0],[x1,x2],[x3],[x4],[x5],[.b (ltI x5.int (x0.rows.length:Int))],[x6,x7],[gd (sub (meetR (sub (x0.rows.getD x5.int.toNat []) 0 2) [x6,x7]) 0 3) 0,gd (sub (meetR (sub (x0.rows.getD x5.int.toNat []) 0 2) [x6,x7]) 0 3) 1]])) (bif (gd (sub (meetR (sub (x0.rows.getD x5.int.toNat []) 0 2) [x6,x7]) 0 3) 2).bool then ob true
 else nx [x0,x1,x2,x3,x4,.i (w64 (x5.int+1)),x6,x7])))))
 else ex 0 [x0,x1,x2,x3,x4,x5,x6,x7]:=by kernel_rfl
theorem s_l10Touch_ev (N:Nat) (p q:List D):evFn Tryz.prog s_l10TouchT N s_l10TouchK Tryz.f124 rb [⟨sd (.sl 41),p⟩,⟨ag rIRange,q⟩]=some (bo,
 (let o0:=iter (s_l10TouchL0 N p q) N [gd p 0,gd q 0,gd q 1,.i 0,.i 0,.i 0,gd q 0,gd q 1]
  nd o0.isSome (bif o0.code==1 then some (1,o0.pay)
  else nd (o0.code==2) (ob false)))):=by kernel_rfl
def touchB (z:D) (q:List D):Bool:= !(List.range z.rows.length).all fun k => !meetB (sub (z.rows.getD k []) 0 2) q
def s_l10TouchE:Ent:=(124,e2 (sd (.sl 41)) (ag rIRange) fun p q=>(⟨rb,[.b (touchB (gd p 0) q)]⟩,true))
theorem s_l10Touch_ok:EntOk Tryz.prog s_l10TouchE:=e2_ok fun p q h=>evFn_sound (N:=(gd p 0).rows.length+1) (ks:=s_l10TouchK) (key:=bo) s_l10TouchT_ok (enters Tryz.func124) Tryz.func124 fun hw=>by
 rw [s_l10Touch_ev]
 have hl:=wt_sl (hw ⟨sd (.sl 41),p⟩ (by simp))
 have e:=for_loop (L:=s_l10TouchL0 ((gd p 0).rows.length+1) p q) (fun k => [gd p 0,gd q 0,gd q 1,.i 0,.i 0,.i (k:Int),gd q 0,gd q 1]) (gd p 0).rows.length (fun k => !meetB (sub ((gd p 0).rows.getD k []) 0 2) q) [.b true] 0 (fun k hk=>?_) ?_ (N:=(gd p 0).rows.length+1) (by omega)
 ·simp only [Int.natCast_zero] at e
  rw [e]
  unfold touchB
  cases (List.range (gd p 0).rows.length).all fun k => !meetB (sub ((gd p 0).rows.getD k []) 0 2) q <;> rfl
 ·show s_l10TouchL0 _ p q [_,_,_,_,_,.i (k:Int),_,_]=_
  rw [s_l10TouchR0]
  simp only [int_i,c_lt hk,Bool.and_true,nd_ix hk,sameP_self,w64_succ hk hl,Int.toNat_natCast]
  have hm:(gd (sub (meetR (sub ((gd p 0).rows.getD k []) 0 2) [gd q 0,gd q 1]) 0 3) 2).bool=meetB (sub ((gd p 0).rows.getD k []) 0 2) q:=meetR_2 _ _
  rw [hm]
  cases meetB (sub ((gd p 0).rows.getD k []) 0 2) q <;> rfl
 ·show s_l10TouchL0 _ p q [_,_,_,_,_,.i ((gd p 0).rows.length:Int),_,_]=_
  rw [s_l10TouchR0]
  simp only [int_i,c_nlt]
abbrev i_freeT:FuncId→List T→Option (T × Bool):=find [i_haveAllE,i_haveAnyE]
theorem i_freeT_ok:CallOk Tryz.prog i_freeT:=find_ok (fC ⟨i_haveAll_ok,fC ⟨i_haveAny_ok,fN⟩⟩)
abbrev i_freeK:List Nat:= [0,1,2,3,4]
theorem i_free_ev (N:Nat) (p q:List D):evFn Tryz.prog i_freeT N i_freeK Tryz.f137 rb [⟨ag rIShard,p⟩,⟨ag rIRange,q⟩]=some (bo,
 bif haveAll (gd p 1) (sub q 0 2) then ob (!(haveAnyB (gd p 2) (sub q 0 2)))
 else ob false):=by kernel_rfl
def freeF (p q:List D):Bool:=haveAll (gd p 1) q && !haveAnyB (gd p 2) q
def i_freeE:Ent:=(137,e2 (ag rIShard) (ag rIRange) fun p q=>(⟨rb,[.b (freeF p q)]⟩,true))
theorem i_free_ok:EntOk Tryz.prog i_freeE:=e2_ok fun p q h=>evFn_sound (N:=0) (ks:=i_freeK) (key:=bo) i_freeT_ok (enters Tryz.func137) Tryz.func137 fun hw=>by
 rw [i_free_ev]
 show some (bo,bif haveAll (gd p 1) q then ob (!haveAnyB (gd p 2) q) else ob false)=_
 unfold freeF
 cases haveAll (gd p 1) q <;> rfl
abbrev s_l13FreeT:FuncId→List T→Option (T × Bool):=find [s_RangesHaveE,s_l10TouchE]
theorem s_l13FreeT_ok:CallOk Tryz.prog s_l13FreeT:=find_ok (fC ⟨s_RangesHave_ok,fC ⟨s_l10Touch_ok,fN⟩⟩)
abbrev s_l13FreeK:List Nat:= [0,1,2,3,4]
theorem s_l13Free_ev (N:Nat) (p q:List D):evFn Tryz.prog s_l13FreeT N s_l13FreeK Tryz.f97 rb [⟨ag rIShard,p⟩,⟨ag rIRange,q⟩]=some (bo,
 bif rangesHave (gd p 1) (sub q 0 2) then ob (!(touchB (gd p 2) (sub q 0 2)))
 else ob false):=by kernel_rfl
def freeS (p q:List D):Bool:=rangesHave (gd p 1) q && !touchB (gd p 2) q
theorem meets_comm (p q:List D):i_meetsF p q=i_meetsF q p:=by
 unfold i_meetsF
 cases ltI (gd p 0).int (gd q 1).int <;> cases ltI (gd q 0).int (gd p 1).int <;> rfl
theorem touch_same {z:D} {q:List D} (hz:rangesOk z=true) (hq:rangeOk q=true):touchB z q=haveAnyB z q:=by
 unfold touchB haveAnyB
 rw [Bool.eq_iff_iff]
 simp only [Bool.not_eq_true',← Bool.not_eq_true,List.all_eq_true,List.any_eq_true,List.mem_range]
 have hm:∀ k,k<z.rows.length→meetB (sub (z.rows.getD k []) 0 2) q=i_meetsF q (sub (z.rows.getD k []) 0 2):=fun k hk=>by
  rw [meetB_of (ranges_at hz hk) hq,meets_comm]
 constructor
 ·intro h
  refine Classical.byContradiction fun hn=>h fun k hk hc=>hn ⟨k,hk,?_⟩
  rw [← hm k hk]; exact hc
 ·rintro ⟨k,hk,hc⟩ h
  refine h k hk ?_
  rw [hm k hk]; exact hc
theorem free_same {p q:List D} (h1:rangesOk (gd p 1)=true) (h2:rangesOk (gd p 2)=true) (hq:rangeOk q=true):freeS p q=freeF p q:=by
 unfold freeS freeF
 rw [touch_same h2 hq,have_same h1 hq]
def s_l13FreeE:Ent:=(97,e2 (ag rIShard) (ag rIRange) fun p q=>(⟨rb,[.b (freeS p q)]⟩,true))
theorem s_l13Free_ok:EntOk Tryz.prog s_l13FreeE:=e2_ok fun p q h=>evFn_sound (N:=0) (ks:=s_l13FreeK) (key:=bo) s_l13FreeT_ok (enters Tryz.func97) Tryz.func97 fun hw=>by
 rw [s_l13Free_ev]
 show some (bo,bif rangesHave (gd p 1) q then ob (!touchB (gd p 2) q) else ob false)=_
 unfold freeS
 cases rangesHave (gd p 1) q <;> rfl
theorem key_rangeOk {q:List D} (h:inB (gd q 0).int 0 999=true):rangeOk [gd q 0,.i (w64 ((gd q 0).int+1))]=true:=by
 simp only [inB,Bool.and_eq_true,decide_eq_true_eq] at h
 exact one_rangeOk (r:=q) (by omega) (by omega)
end Go.Proofs.YtpdfmcmnjikppaaGreat
namespace Go.Proofs.YtpdfmcmnjikppaaGreat
set_option maxRecDepth 4096
set_option maxHeartbeats 1000000
structure CoordW (R O:D):Prop where
 len:R.rows.length≤60
 tx:∀ i,i<R.rows.length→(gd (R.rows.getD i []) 0).int=((i+1:Nat):Int)
 sh:∀ i,i<R.rows.length→sharesOk (gd (R.rows.getD i []) 4)=true
 ord:∀ k,k<O.rows.length→1≤vAt O k∧vAt O k≤(R.rows.length:Int)∧(gd (R.rows.getD (vAt O k - 1).toNat []) 3).int=3
 nodup:(numsOf O).Nodup
 all:cnt (isYes R) 0 R.rows.length=O.rows.length
end Go.Proofs.YtpdfmcmnjikppaaGreat
namespace Go.Proofs.YtpdfmcmnjikppaaGreat
set_option maxRecDepth 4096
set_option maxHeartbeats 1000000
theorem writes_at {z:D} (h:writesOk z=true) {k:Nat} (hk:k<z.rows.length):inB (gd (z.rows.getD k []) 0).int 0 999=true∧leI (-1) (gd (z.rows.getD k []) 1).int=true:=by
 unfold writesOk at h
 rw [Bool.and_eq_true] at h
 have:=List.all_eq_true.1 h.2 k (List.mem_range.2 hk)
 unfold writeAt at this
 simp only [Bool.and_eq_true] at this
 refine ⟨this.1,?_⟩
 have h1:=this.2.1
 simp only [inB,Bool.and_eq_true,decide_eq_true_eq] at h1
 exact leI_t (by omega)
abbrev shOf (R O:D) (k:Nat):D:=gd (R.rows.getD (vAt O k - 1).toNat []) 4
structure BefW (R O:D):Prop where
 ord:∀ k,k<O.rows.length→1≤vAt O k∧vAt O k≤(R.rows.length:Int)
 sh:∀ k,k<O.rows.length→sharesOk (shOf R O k)=true
 rl:R.rows.length≤60
 ol:O.rows.length≤60
end Go.Proofs.YtpdfmcmnjikppaaGreat
namespace Go.Proofs.YtpdfmcmnjikppaaGreat
set_option maxRecDepth 4096
set_option maxHeartbeats 1000000
theorem find_loop {L:List D→Out} {st:Nat→List D} {n:Nat} (C:Nat→Bool) (v:Nat→List D) (j:Nat) (h1:∀ k,k<n→L (st k)=bif C k then some (1,v k) else nx (st (k+1))) (h2:L (st n)=some (j+2,st n)) :
  ∀ (m k N:Nat),k+m=n→m<N→iter L N (st k)=match (List.range' k m).find? C with | some i=>some (1,v i) | none=>some (j+2,st n):=by
 intro m
 induction m with
 | zero =>
  intro k N hk hN
  obtain ⟨N,rfl⟩:∃ N',N=N'+1:=⟨N - 1,by omega⟩
  obtain rfl:k=n:=by omega
  exact iter_ex (c:=j+1) h2
 | succ m ih =>
  intro k N hk hN
  obtain ⟨N,rfl⟩:∃ N',N=N'+1:=⟨N - 1,by omega⟩
  have h:=h1 k (by omega)
  rw [List.range'_succ,List.find?_cons]
  cases hC:C k with
  | true =>
   rw [hC,cond_true] at h
   exact iter_ex (c:=0) h
  | false =>
   rw [hC,cond_false] at h
   rw [iter_nx h]
   exact ih (k+1) N (by omega) (by omega)
def cellsOf (p:List D) (k:Nat):D:=gd ((gd p 9).rows.getD k []) 3
end Go.Proofs.YtpdfmcmnjikppaaGreat
namespace Go.Proofs.YtpdfmcmnjikppaaGreat
set_option maxRecDepth 4096
set_option maxHeartbeats 1000000
end Go.Proofs.YtpdfmcmnjikppaaGreat
namespace Go.Proofs.YtpdfmcmnjikppaaGreat
set_option maxRecDepth 4096
set_option maxHeartbeats 1000000
end Go.Proofs.YtpdfmcmnjikppaaGreat
namespace Go.Proofs.YtpdfmcmnjikppaaGreat
set_option maxRecDepth 100000
set_option maxHeartbeats 4000000
open Go.RowKit Go.Lib
def protK (B:Option Nat) (n:Nat):Nat→Nat:=fun b=>if B=some b then n else 0
theorem ownK_vd {P:Program} {w:World} {e:TypeId} {row:List S} {z:D} {u:Value} {B:Option Nat} (hrow:rowOf P e=some row) (h:OwnK w e row z.rows u B):VD P w (protK B (z.rows.length*row.length)) (.sl e) z u:=by
 rcases h with ⟨rfl,h0,A,rfl⟩ | ⟨b,cap,arr,rfl,rfl,h2,h3,h4,h5,h6⟩
 ·have:=VD.sl (P:=P) (w:=w) (prot:=protK none (z.rows.length*row.length)) e z A 0 row (fun _ _=>undef) hrow (by rw [h0]; simp) (by omega) (by rw [h0]; intro i j hi; simp at hi) (by rw [h0]; intro i j s hi; simp at hi)
  rwa [show z.rows.length=0 from by rw [h0]; rfl] at this
 ·refine VD.sl e z _ cap row (fun i j=>arr[i*row.length+j]?.getD undef) hrow h2 h3 (fun i j hi hj=>?_) (fun i j s hi hs=>?_)
  ·obtain ⟨v,k1,k2⟩:=h6 i j _ hi (List.getElem?_eq_getElem hj)
   refine ⟨b,0,rfl,?_,?_⟩
   ·rw [k1,Nat.zero_add,cell_at h4]; exact k1
   ·show _<(if some b=some b then _ else _)
    rw [if_pos rfl,Nat.zero_add]
    have:i*row.length+row.length≤z.rows.length*row.length:=by
     rw [← Nat.succ_mul]; exact Nat.mul_le_mul_right _ hi
    omega
  ·obtain ⟨v,k1,k2⟩:=h6 i j s hi hs
   simp only [k1]
   exact k2.vd
theorem ownK_size {w:World} {e:TypeId} {row:List S} {rows:List (List D)} {v:Value} {B:Option Nat} (h:OwnK w e row rows v B):∀ b,B=some b→b<w.heap.size:=by
 rcases h with ⟨rfl,_⟩ | ⟨b,cap,arr,rfl,_,_,_,h4,_⟩
 ·intro b hb; cases hb
 ·intro b' hb
  injection hb with hb
  subst hb
  exact lt_of_heap h4
end Go.Proofs.YtpdfmcmnjikppaaGreat
namespace Go.Proofs.YtpdfmcmnjikppaaGreat
set_option maxRecDepth 100000
set_option maxHeartbeats 4000000
open Go.RowKit Go.Lib
def keptR (C:List D→Bool) (rows:List (List D)):List (List D):=rows.filter fun r => !C r
structure KI (C:List D→Bool) (rows rj:List (List D)) (i j:Nat):Prop where
 len:rj.length=rows.length
 lt:i<j
 le:j≤rows.length
 num:i=(keptR C (rows.take j)).length
 done:rj.take i=keptR C (rows.take j)
 rest:∀ k,j≤k→rj.getD k []=rows.getD k []
theorem take_succ_getD {rows:List (List D)} {j:Nat} (h:j<rows.length):rows.take (j+1)=rows.take j ++ [rows.getD j []]:=by
 rw [List.take_add_one,List.getElem?_eq_getElem h,List.getD_eq_getElem?_getD,List.getElem?_eq_getElem h]
 rfl
theorem KI.keep {C:List D→Bool} {rows rj:List (List D)} {i j:Nat} (h:KI C rows rj i j) (hj:j<rows.length) (hc:C (rows.getD j [])=false):KI C rows (rj.set i (rows.getD j [])) (i+1) (j+1):=by
 have hk:keptR C (rows.take (j+1))=keptR C (rows.take j) ++ [rows.getD j []]:=by
  rw [take_succ_getD hj]
  unfold keptR
  rw [List.filter_append]
  congr 1
  simp only [List.filter_cons,hc,Bool.not_false,if_true,List.filter_nil]
 have hl:=h.len
 have hlt:=h.lt
 refine ⟨by simp [hl],by omega,by omega,by rw [hk,List.length_append,← h.num]; rfl,?_,fun k hk'=>?_⟩
 ·rw [hk,← h.done,take_succ_getD (by simp; omega)]
  congr 1
  ·rw [List.take_set_of_le (Nat.le_refl _)]
  ·rw [List.getD_eq_getElem?_getD,List.getElem?_set_self (by omega)]; rfl
 ·rw [List.getD_eq_getElem?_getD,List.getElem?_set_ne (by omega),← List.getD_eq_getElem?_getD]
  exact h.rest k (by omega)
theorem KI.skip {C:List D→Bool} {rows rj:List (List D)} {i j:Nat} (h:KI C rows rj i j) (hj:j<rows.length) (hc:C (rows.getD j [])=true):KI C rows rj i (j+1):=by
 have hk:keptR C (rows.take (j+1))=keptR C (rows.take j):=by
  rw [take_succ_getD hj]
  unfold keptR
  rw [List.filter_append]
  simp only [List.filter_cons,hc,Bool.not_true,Bool.false_eq_true,if_false,List.filter_nil,List.append_nil]
 have hlt:=h.lt
 exact ⟨h.len,by omega,by omega,by rw [hk]; exact h.num,by rw [hk]; exact h.done,fun k hk'=>h.rest k (by omega)⟩
theorem keptR_none {C:List D→Bool} {rows:List (List D)} (h:∀ k,k<rows.length→C (rows.getD k [])=false):keptR C rows=rows:=by
 unfold keptR
 rw [List.filter_eq_self]
 intro r hr
 obtain ⟨k,hk,rfl⟩:=List.getElem_of_mem hr
 have:=h k hk
 rw [List.getD_eq_getElem?_getD,List.getElem?_eq_getElem hk] at this
 simpa using this
theorem KI.start {C:List D→Bool} {rows:List (List D)} {k0:Nat} (h:k0<rows.length) (hn:∀ k,k<k0→C (rows.getD k [])=false) (hc:C (rows.getD k0 [])=true):KI C rows rows k0 (k0+1):=by
 have hkn:keptR C (rows.take k0)=rows.take k0:=keptR_none fun k hk=>by
  have hk:k<k0:=by have:=hk; simp at this; omega
  rw [List.getD_eq_getElem?_getD,List.getElem?_take,if_pos hk,← List.getD_eq_getElem?_getD]
  exact hn k hk
 have hk:keptR C (rows.take (k0+1))=rows.take k0:=by
  rw [take_succ_getD h]
  unfold keptR
  rw [List.filter_append]
  simp only [List.filter_cons,hc,Bool.not_true,Bool.false_eq_true,if_false,List.filter_nil,List.append_nil]
  exact hkn
 exact ⟨rfl,by omega,by omega,by rw [hk,List.length_take]; omega,hk.symm,fun _ _=>rfl⟩
theorem ixF_spec (C:Nat→Bool):∀ (n i:Nat),(ixF C i n = -1∧∀ k,k<n→C (i+k)=false)∨∃ k,k<n∧ixF C i n=((i+k:Nat):Int)∧C (i+k)=true∧∀ k',k'<k→C (i+k')=false
 | 0,i=>.inl ⟨rfl,fun k hk=>absurd hk (Nat.not_lt_zero _)⟩
 | n+1,i=>by
  cases h:C i with
  | true=>exact .inr ⟨0,by omega,by simp [ixF,h],h,fun k hk=>absurd hk (Nat.not_lt_zero _)⟩
  | false =>
   rcases ixF_spec C n (i+1) with ⟨e,ha⟩ | ⟨k,hk,e,ht,ha⟩
   ·refine .inl ⟨by simp [ixF,h,e],fun k hk=>?_⟩
    cases k with
    | zero=>exact h
    | succ k=>have:=ha k (by omega); rwa [show i+1+k=i+(k+1) from by omega] at this
   ·refine .inr ⟨k+1,by omega,by simp only [ixF,h]; rw [show i+(k+1)=i+1+k from by omega]; exact e,by rwa [show i+(k+1)=i+1+k from by omega],fun k' hk'=>?_⟩
    cases k' with
    | zero=>exact h
    | succ k'=>have:=ha k' (by omega); rwa [show i+1+k'=i+(k'+1) from by omega] at this
theorem run_clear3 {P:Program} (w:World) (t e ty:TypeId) (z:Value) (ht:P.underlying t=some (.slice e)) (hv:∀ w,(zeroValue e).run P w=.ok z w) (h1:∀ u∈z.cells.toList,u.oneCell'=true) (b o n c:Nat) (hn:0<n) (hs:0<z.cells.size)
  (hc:∀ j,j<n*z.cells.size→(w.cell? ⟨b,o+j,none⟩).isSome=true) (hf:∀ j,j<n*z.cells.size→w.frozen? ⟨b,o+j,none⟩=false) :
  (Builtin.clear_ #[t] ty #[.slice (some ⟨b,o,none⟩) n c]).run P w=.ok (.tuple #[]) (w.setCells b o (Builtin.zeroCells z.cells n).toList):=by
 have hsz:(Builtin.zeroCells z.cells n).toList.length=n*z.cells.size:=by simp [size_zeroCells]
 have hst:=run_storeCells_cells (P:=P) b o (Builtin.zeroCells z.cells n).toList 0 w (by rw [hsz]; simpa using hc) (by rw [hsz]; simpa using hf) (fun u hu=>by
  obtain ⟨j,hj,rfl⟩:=List.getElem_of_mem hu
  rw [hsz] at hj
  have:(Builtin.zeroCells z.cells n).toList[j]'(by rw [hsz]; exact hj)=z.cells[j % z.cells.size]'(Nat.mod_lt _ hs):=by
   have h2:j % z.cells.size<z.cells.size:=Nat.mod_lt j hs
   simp only [Builtin.zeroCells,Array.toList_map,Array.toList_range,List.getElem_map,List.getElem_range]
   exact getElem!_pos z.cells _ h2
  rw [this]
  exact h1 _ (by simp))
 obtain ⟨m,rfl⟩:∃ m,n=m+1:=⟨n - 1,by omega⟩
 simp only [Nat.add_zero] at hst
 simp [Builtin.clear_,run_underlying ht,hv,hst]
end Go.Proofs.YtpdfmcmnjikppaaGreat
namespace Go.Proofs.YtpdfmcmnjikppaaGreat
set_option maxRecDepth 100000
set_option maxHeartbeats 4000000
open Go.RowKit Go.Lib
abbrev rowN (k:Nat):List S:=List.replicate k (.int .i64)
abbrev cellsR (k:Nat) (r:List D):List Value:=(List.range k).map fun j=>.int .i64 (gd r j).int
theorem cellsR_get {k j:Nat} (r:List D) (h:j<k):(cellsR k r)[j]?=some (.int .i64 (gd r j).int):=by simp [cellsR,h]
theorem ownN_mk {w:World} {e:TypeId} {k:Nat} {rows:List (List D)} {b cap:Nat} {arr:Array Value} (hh:w.heap[b]?=some (.cells arr e (0,0))) (hs:arr.size=cap*k) (hle:rows.length≤cap) (h63:cap≤9223372036854775807)
  (hc:∀ i j,i<rows.length→j<k→arr[i*k+j]?=some (.int .i64 (gd (rows.getD i []) j).int)):OwnK w e (rowN k) rows (.slice (some ⟨b,0,none⟩) rows.length cap) (some b):=
 .inr ⟨b,cap,arr,rfl,rfl,hle,h63,hh,by simpa using hs,fun i j s hi hj=>by
  obtain ⟨h1,h2⟩:=List.getElem?_eq_some_iff.1 hj
  have h1:j<k:=by simpa using h1
  have h2:S.int .i64=s:=by simpa using h2
  subst h2
  exact ⟨.int .i64 (gd (rows.getD i []) j).int,by simpa using hc i j hi h1,rfl⟩⟩
theorem ownN_at {w:World} {e:TypeId} {k:Nat} {rows:List (List D)} {u:Value} {B:Option Nat} (h:OwnK w e (rowN k) rows u B):(B=none∧rows = []∧∃ A,u=.slice A 0 0) ∨
  ∃ (b cap:Nat) (arr:Array Value),B=some b∧u=.slice (some ⟨b,0,none⟩) rows.length cap∧rows.length≤cap∧cap≤9223372036854775807∧w.heap[b]?=some (.cells arr e (0,0))∧arr.size=cap*k ∧
   ∀ i j,i<rows.length→j<k→arr[i*k+j]?=some (.int .i64 (gd (rows.getD i []) j).int):=by
 rcases h with h | ⟨b,cap,arr,h1,h2,h3,h4,h5,h6,h7⟩
 ·exact .inl h
 ·refine .inr ⟨b,cap,arr,h1,h2,h3,h4,h5,by simpa using h6,fun i j hi hj=>?_⟩
  obtain ⟨u,q1,q2⟩:=h7 i j (.int .i64) hi (by simp [hj])
  rw [show (rowN k).length=k from by simp] at q1
  rw [q1]
  exact congrArg some q2
theorem ownN_cell {w:World} {e:TypeId} {k:Nat} {rows:List (List D)} {u:Value} {b:Nat} (h:OwnK w e (rowN k) rows u (some b)) {i j:Nat} (hi:i<rows.length) (hj:j<k) :
  w.cell? ⟨b,i*k+j,none⟩=some (.int .i64 (gd (rows.getD i []) j).int)∧w.frozen? ⟨b,i*k+j,none⟩=false:=by
 rcases ownN_at h with ⟨h0,_⟩ | ⟨b',cap,arr,hb,_,hle,_,hh,hs,hc⟩
 ·cases h0
 ·injection hb with hb
  subst hb
  exact ⟨by rw [cell_at hh]; exact hc i j hi hj,unfrozen hh _⟩
theorem ownN_set {w w2:World} {e:TypeId} {k:Nat} {rj:List (List D)} {b cap n i:Nat} (h:OwnK w e (rowN k) rj (.slice (some ⟨b,0,none⟩) n cap) (some b)) (hn:rj.length=n) (hi:i<n) (hbb:w2.heap[b]?=w.heap[b]?) (r:List D) :
  OwnK (w2.setCells b (i*k) (cellsR k r)) e (rowN k) (rj.set i r) (.slice (some ⟨b,0,none⟩) n cap) (some b):=by
 rcases ownN_at h with ⟨h0,_⟩ | ⟨b',cap',arr,hb,hu,hle,h63,hh,hs,hc⟩
 ·cases h0
 ·injection hb with hb
  subst hb
  injection hu with _ hu1 hu2
  subst hu2
  have hrl:(cellsR k r).length=k:=by simp
  have hik:i*k+k≤cap*k:=by
   have:=Nat.mul_le_mul_right k (show i+1≤cap by omega)
   rwa [Nat.add_mul,Nat.one_mul] at this
  obtain ⟨arr',a1,a2,a3,a4⟩:=setCells_heap b e (0,0) (cellsR k r) (i*k) w2 arr (hbb.trans hh) (by rw [hs,hrl]; exact hik)
  have hl:(rj.set i r).length=n:=by simp [hn]
  have:=ownN_mk (rows:=rj.set i r) a1 (by rw [a2,hs]) (by omega) h63 (fun m j hm hj=>by
   rw [hl] at hm
   have hset:(rj.set i r).getD m []=if i=m then r else rj.getD m []:=by
    rw [List.getD_eq_getElem?_getD,List.getElem?_set]
    by_cases e:i=m
    ·subst e; simp [hn,hi]
    ·simp [e,List.getD_eq_getElem?_getD]
   rw [hset]
   by_cases e:i=m
   ·subst e
    rw [if_pos rfl]
    exact a4 j _ (cellsR_get r hj)
   ·rw [if_neg e,a3 _ (by
     rw [hrl]
     rcases Nat.lt_or_gt_of_ne e with h | h
     ·right
      have:=Nat.mul_le_mul_right k (show i+1≤m from h)
      rw [Nat.add_mul,Nat.one_mul] at this
      omega
     ·left
      have:=Nat.mul_le_mul_right k (show m+1≤i from h)
      rw [Nat.add_mul,Nat.one_mul] at this
      omega)]
    exact hc m j (by omega) hj)
  rwa [hl] at this
theorem ownN_below {w w':World} {e:TypeId} {row:List S} {rows:List (List D)} {u:Value} {B:Option Nat} (h:OwnK w e row rows u B) (hb:Below w.heap.size w w'):OwnK w' e row rows u B:=by
 rcases h with h | ⟨b,cap,arr,h1,h2,h3,h4,h5,h6⟩
 ·exact .inl h
 ·exact .inr ⟨b,cap,arr,h1,h2,h3,h4,(hb.block b (lt_of_heap h5)).trans h5,h6⟩
abbrev zcN_Lock:Value:=(.agg #[.int .i64 0,.int .i64 0,.int .i64 0,.int .i64 0])
theorem zcN_Lock_run:∀ w,(zeroValue 93).run Tryz.prog w=.ok zcN_Lock w:=fun w=>Tryz.zeroValue93 w
theorem delfLock_calls {w:World} {rows:List (List D)} {u:Value} {B:Option Nat} (hO:OwnK w 93 (rowN 4) rows u B) (F:FuncId) (fa:Array Value) (C:List D→Bool) (hC:∀ r,C r=C [.i (gd r 0).int,.i (gd r 1).int,.i (gd r 2).int,.i (gd r 3).int])
  (hen:∀ vs w,(callFunc F vs).run Tryz.prog w=.ok (.enter F vs) w)
  (hix:Calls Tryz.prog 234 #[u,.func (.func F) #[] fa] w fun ex w'=>ex=.returned (.int .i64 (ixF (fun k=>C (rows.getD k [])) 0 rows.length))∧Below w.heap.size w w')
  (hdel:∀ (w'':World) (x0 x1 x2 x3:Int),Changed w w'' B→Calls Tryz.prog F (#[.agg #[.int .i64 x0,.int .i64 x1,.int .i64 x2,.int .i64 x3]]++fa) w'' fun ex w'=>ex=.returned (.bool (C [.i x0,.i x1,.i x2,.i x3]))∧Below w''.heap.size w'' w') :
  Calls Tryz.prog 164 #[u,.func (.func F) #[] fa] w fun ex w'=>∃ v' B',ex=.returned v'∧Changed w w' B∧OwnK w' 93 (rowN 4) (keptR C rows) v' B'∧∀ b,B'=some b→B=some b∨w.heap.size≤b:=by
 by_cases hno:ixF (fun k=>C (rows.getD k [])) 0 rows.length = -1
 ·rw [hno] at hix
  have hall:keptR C rows=rows:=by
   rcases ixF_spec (fun k=>C (rows.getD k [])) rows.length 0 with ⟨_,h⟩ | ⟨k,_,h,_⟩
   ·exact keptR_none fun k hk=>by have:=h k hk; rwa [Nat.zero_add] at this
   ·rw [hno] at h; omega
  rw [hall]
  have HO:Hid _:=hO
  clear hO hdel hall
  go_enter Tryz.func164,Tryz.ntmps164
  go_wp2_with fail
  refine hix.mono ?_
  rintro e w' ⟨rfl,hb⟩
  go_wp2_with fail
  go_ret
  exact ⟨u,B,rfl,Changed.of_below B hb,ownN_below HO.out hb,fun b hb=>.inl hb⟩
 ·obtain ⟨k0,hk0,hk0l,hkn,hkk⟩:∃ k0:Nat,ixF (fun k=>C (rows.getD k [])) 0 rows.length=(k0:Int)∧k0<rows.length∧(∀ k,k<k0→C (rows.getD k [])=false)∧C (rows.getD k0 [])=true:=by
   rcases ixF_spec (fun k=>C (rows.getD k [])) rows.length 0 with ⟨h,_⟩ | ⟨k,h1,h2,h3,h4⟩
   ·exact absurd h hno
   ·simp only [Nat.zero_add] at h2 h3 h4
    exact ⟨k,h2,h1,h4,h3⟩
  rw [hk0] at hix
  obtain ⟨b,cap,arr,rfl,rfl,hle,h63,hh,hs,hc⟩:∃ (b cap:Nat) (arr:Array Value),B=some b∧u=.slice (some ⟨b,0,none⟩) rows.length cap∧rows.length≤cap∧cap≤9223372036854775807∧w.heap[b]?=some (.cells arr 93 (0,0))∧arr.size=cap*4 ∧
    ∀ i j,i<rows.length→j<4→arr[i*4+j]?=some (.int .i64 (gd (rows.getD i []) j).int):=by
   rcases ownN_at hO with ⟨_,h0,_⟩ | h
   ·rw [h0] at hk0l; simp at hk0l
   ·exact h
  have HO:Hid _:=hO
  have HDEL:Hid _:=hdel
  have hne1:((k0:Int) == -1)=false:=beq_eq_false_iff_ne.2 (by omega)
  have HST:Hid (KI C rows rows k0 (k0+1)):=KI.start hk0l hkn hkk
  have hbw:b<w.heap.size:=lt_of_heap hh
  clear hO hdel hh hs hc hkn hkk hno hk0
  go_enter Tryz.func164,Tryz.ntmps164
  go_wp2_with fail
  refine hix.mono ?_
  rintro e w' ⟨rfl,hb⟩
  have HB0:Hid _:=hb
  clear hb
  go_wp2_with fail
  go_loopw [5,6] (fun s5 s6 wr=>∃ (i j:Nat) (rj:List (List D)),s5=.int .i64 i∧s6=.int .i64 j∧Hid (Changed w wr (some b))∧Hid (OwnK wr 93 (rowN 4) rj (.slice (some ⟨b,0,none⟩) rows.length cap) (some b))∧Hid (KI C rows rj i j)) (fun _ s6 _=>rows.length - (intOf s6).toNat)
  case atStart=>exact ⟨k0,k0+1,rows,rfl,by go_num,Changed.of_below _ HB0.out,ownN_below HO.out HB0.out,HST.out⟩
  case round =>
   obtain ⟨i,j,rj,rfl,rfl,HC,HOW,HK⟩:=hrel
   have hij:=HK.out.lt
   have hjl:=HK.out.le
   have hrl:=HK.out.len
   by_cases hlt:j<rows.length
   ·have hrow:(rj.getD j [])=rows.getD j []:=HK.out.rest j (Nat.le_refl _)
    obtain ⟨cj0,_⟩:=ownN_cell HOW.out (i:=j) (j:=0) (by omega) (by omega)
    obtain ⟨ci0,fi0⟩:=ownN_cell HOW.out (i:=i) (j:=0) (by omega) (by omega)
    obtain ⟨cj1,_⟩:=ownN_cell HOW.out (i:=j) (j:=1) (by omega) (by omega)
    obtain ⟨ci1,fi1⟩:=ownN_cell HOW.out (i:=i) (j:=1) (by omega) (by omega)
    obtain ⟨cj2,_⟩:=ownN_cell HOW.out (i:=j) (j:=2) (by omega) (by omega)
    obtain ⟨ci2,fi2⟩:=ownN_cell HOW.out (i:=i) (j:=2) (by omega) (by omega)
    obtain ⟨cj3,_⟩:=ownN_cell HOW.out (i:=j) (j:=3) (by omega) (by omega)
    obtain ⟨ci3,fi3⟩:=ownN_cell HOW.out (i:=i) (j:=3) (by omega) (by omega)
    simp only [Nat.add_zero] at cj0 ci0 fi0
    have hbr:b<wr.heap.size:=by have:=HC.out.size; omega
    rw [hrow] at cj0 cj1 cj2 cj3
    have hcall:=fun (x:World) (hx:Below wr.heap.size wr x)=>HDEL.out x (gd (rows.getD j []) 0).int (gd (rows.getD j []) 1).int (gd (rows.getD j []) 2).int (gd (rows.getD j []) 3).int (HC.out.trans (Changed.of_below _ hx) (fun b hb=>.inl hb))
    rw [← hC] at hcall
    generalize hx0:(gd (rows.getD j []) 0).int=x0 at *
    generalize (gd (rj.getD i []) 0).int=o0 at *
    have HX0:Hid _:=hx0
    generalize hx1:(gd (rows.getD j []) 1).int=x1 at *
    generalize (gd (rj.getD i []) 1).int=o1 at *
    have HX1:Hid _:=hx1
    generalize hx2:(gd (rows.getD j []) 2).int=x2 at *
    generalize (gd (rj.getD i []) 2).int=o2 at *
    have HX2:Hid _:=hx2
    generalize hx3:(gd (rows.getD j []) 3).int=x3 at *
    generalize (gd (rj.getD i []) 3).int=o3 at *
    have HX3:Hid _:=hx3
    have HCALL:Hid _:=hcall
    clear hx0 hx1 hx2 hx3 hcall hrow
    cases hq:C (rows.getD j []) with
    | false =>
     have HQ:Hid _:=hq
     rw [hq] at HCALL
     clear hq
     go_wp2_with fail
     refine (HCALL.out _ ((Below.refl _ _).alloc (Nat.le_refl _) _)).mono ?_
     rintro e w2 ⟨rfl,hb2⟩
     have hsz2:=hb2.size
     have hnew:w2.heap[wr.heap.size]?=some (.cells #[.int .i64 x0,.int .i64 x1,.int .i64 x2,.int .i64 x3] 93 (0,0)):=(hb2.block wr.heap.size (by simp)).trans (by letI:Low:=noLow; exact heap_new wr _)
     have ex0:w2.cell? ⟨wr.heap.size,0,none⟩=some (.int .i64 x0):=by rw [cell_at hnew]; rfl
     have ex1:w2.cell? ⟨wr.heap.size,1,none⟩=some (.int .i64 x1):=by rw [cell_at hnew]; rfl
     have ex2:w2.cell? ⟨wr.heap.size,2,none⟩=some (.int .i64 x2):=by rw [cell_at hnew]; rfl
     have ex3:w2.cell? ⟨wr.heap.size,3,none⟩=some (.int .i64 x3):=by rw [cell_at hnew]; rfl
     clear hnew
     have hbb:w2.heap[b]?=wr.heap[b]?:=(hb2.block b (by simp; omega)).trans (Below.heap_alloc wr _ b hbr)
     have ei0:w2.cell? ⟨b,i*4,none⟩=some (.int .i64 o0):=(cell_of_heap hbb _).trans ci0
     have ef0:w2.frozen? ⟨b,i*4,none⟩=false:=by rw [← fi0]; unfold World.frozen?; simp only; rw [hbb]
     have ei1:w2.cell? ⟨b,i*4+1,none⟩=some (.int .i64 o1):=(cell_of_heap hbb _).trans ci1
     have ef1:w2.frozen? ⟨b,i*4+1,none⟩=false:=by rw [← fi1]; unfold World.frozen?; simp only; rw [hbb]
     have ei2:w2.cell? ⟨b,i*4+2,none⟩=some (.int .i64 o2):=(cell_of_heap hbb _).trans ci2
     have ef2:w2.frozen? ⟨b,i*4+2,none⟩=false:=by rw [← fi2]; unfold World.frozen?; simp only; rw [hbb]
     have ei3:w2.cell? ⟨b,i*4+3,none⟩=some (.int .i64 o3):=(cell_of_heap hbb _).trans ci3
     have ef3:w2.frozen? ⟨b,i*4+3,none⟩=false:=by rw [← fi3]; unfold World.frozen?; simp only; rw [hbb]
     have HB2:Hid _:=hb2
     have HBB:Hid _:=hbb
     clear hb2 hbb ci0 fi0 cj0 ci1 fi1 cj1 ci2 fi2 cj2 ci3 fi3 cj3
     go_wp2_with fail
     have hA:Below wr.heap.size wr w2:=((Below.refl _ _).alloc (Nat.le_refl _) _).trans (HB2.out.mono (by simp))
     have hrow2 : [Value.int .i64 x0,.int .i64 x1,.int .i64 x2,.int .i64 x3]=cellsR 4 (rows.getD j []):=by
      rw [← HX0.out,← HX1.out,← HX2.out,← HX3.out]; rfl
     obtain ⟨d1,d2,d3,d4,d5⟩:=setCells_else b [Value.int .i64 x0,.int .i64 x1,.int .i64 x2,.int .i64 x3] (i*4) w2
     refine ⟨⟨i+1,j+1,rj.set i (rows.getD j []),by go_num,by go_num,(show Hid _ from ?_),(show Hid _ from ?_),HK.out.keep hlt HQ.out⟩,by simp [intOf]; omega⟩
     ·exact (HC.out.trans (Changed.of_below _ hA) (fun b hb=>.inl hb)).trans ⟨d1,d2,d3,Nat.le_of_eq d4.symm,fun k hk hne=>d5 k (fun e=>hne (by rw [e]))⟩ (fun b hb=>.inl hb)
     ·have:=ownN_set (i:=i) HOW.out hrl (by omega) HBB.out (rows.getD j [])
      rw [← hrow2] at this
      exact this
    | true =>
     have HQ:Hid _:=hq
     rw [hq] at HCALL
     clear hq ci0 fi0 ci1 fi1 ci2 fi2 ci3 fi3
     go_wp2_with fail
     refine (HCALL.out _ ((Below.refl _ _).alloc (Nat.le_refl _) _)).mono ?_
     rintro e w2 ⟨rfl,hb2⟩
     have HB2:Hid _:=hb2
     clear hb2 cj0 cj1 cj2 cj3
     go_wp2_with fail
     have hA:Below wr.heap.size wr w2:=((Below.refl _ _).alloc (Nat.le_refl _) _).trans (HB2.out.mono (by simp))
     exact ⟨⟨i,j+1,rj,rfl,by go_num,HC.out.trans (Changed.of_below _ hA) (fun b hb=>.inl hb),ownN_below HOW.out hA,HK.out.skip hlt HQ.out⟩,by simp [intOf]; omega⟩
   ·obtain rfl:j=rows.length:=by omega
    have hcells:∀ k,k<rows.length*4→(wr.cell? ⟨b,k,none⟩).isSome=true∧wr.frozen? ⟨b,k,none⟩=false:=fun k hk=>by
     obtain ⟨q1,q2⟩:=ownN_cell HOW.out (i:=k / 4) (j:=k % 4) (by omega) (by omega)
     rw [show k / 4*4+k % 4=k from by omega] at q1 q2
     exact ⟨by rw [q1]; rfl,q2⟩
    have hzs:zcN_Lock.cells.size=4:=rfl
    have hcl:∀ ty,(Builtin.clear_ #[34] ty #[.slice (some ⟨b,i*4,none⟩) (rows.length - i) (cap - i)]).run Tryz.prog wr=.ok (.tuple #[]) (wr.setCells b (i*4) (Builtin.zeroCells zcN_Lock.cells (rows.length - i)).toList):=fun ty =>
     run_clear3 wr _ _ ty zcN_Lock Tryz.underlying34 zcN_Lock_run (fun u hu=>by simp [Value.cells] at hu; subst hu; rfl) b (i*4) _ _ (by omega) (by decide)
      (fun k hk=>(hcells (i*4+k) (by rw [hzs] at hk; omega)).1) (fun k hk=>(hcells (i*4+k) (by rw [hzs] at hk; omega)).2)
    have HCL:Hid _:=hcl
    have b1:i≤cap:=by omega
    have b2:i≤rows.length:=by omega
    have b3:¬ (cap=i):=by omega
    clear hcells hzs
    go_wp2
    go_ret
    have hfin:keptR C rows=rj.take i:=by
     have:=HK.out.done
     rw [List.take_of_length_le (Nat.le_refl _)] at this
     exact this.symm
    rw [hfin]
    obtain ⟨d1,d2,d3,d4,d5⟩:=setCells_else b (Builtin.zeroCells zcN_Lock.cells (rows.length - i)).toList (i*4) wr
    refine ⟨_,some b,rfl,HC.out.trans ⟨d1,d2,d3,Nat.le_of_eq d4.symm,fun k hk hne=>d5 k (fun e=>hne (by rw [e]))⟩ (fun b hb=>.inl hb),?_,fun b hb=>.inl hb⟩
    rcases ownN_at HOW.out with ⟨h0,_⟩ | ⟨b',cap',arr',hb,hu,hle',h63',hh',hs',hc'⟩
    ·cases h0
    ·injection hb with hb
     subst hb
     injection hu with _ _ hu2
     subst hu2
     obtain ⟨arr2,a1,a2,a3,a4⟩:=setCells_heap b 93 (0,0) (Builtin.zeroCells zcN_Lock.cells (rows.length - i)).toList (i*4) wr arr' hh' (by
      have:(Builtin.zeroCells zcN_Lock.cells (rows.length - i)).toList.length=(rows.length - i)*4:=by simp [size_zeroCells,show zcN_Lock.cells.size=4 from rfl]
      rw [this,hs']; omega)
     have hl:(rj.take i).length=i:=by rw [List.length_take]; omega
     have:=ownN_mk (rows:=rj.take i) a1 (by rw [a2,hs']) (by omega) h63' (fun k m hk hm=>by
      rw [hl] at hk
      rw [List.getD_eq_getElem?_getD,List.getElem?_take,if_pos hk,← List.getD_eq_getElem?_getD]
      rw [a3 _ (.inl (by omega))]
      exact hc' k m (by omega) hm)
     rwa [hl] at this
end Go.Proofs.YtpdfmcmnjikppaaGreat
namespace Go.Proofs.YtpdfmcmnjikppaaGreat
set_option maxRecDepth 4096
set_option maxHeartbeats 1000000
end Go.Proofs.YtpdfmcmnjikppaaGreat
namespace Go.Proofs.YtpdfmcmnjikppaaGreat
set_option maxRecDepth 100000
set_option maxHeartbeats 4000000
open Go.RowKit Go.Lib
end Go.Proofs.YtpdfmcmnjikppaaGreat
namespace Go.Proofs.YtpdfmcmnjikppaaGreat
set_option maxRecDepth 4096
set_option maxHeartbeats 1000000
end Go.Proofs.YtpdfmcmnjikppaaGreat
namespace Go.Proofs.YtpdfmcmnjikppaaGreat
set_option maxRecDepth 4096
set_option maxHeartbeats 1000000
abbrev i_isHeldT:FuncId→List T→Option (T × Bool):=find [i_txsOfE,coIE]
theorem i_isHeldT_ok:CallOk Tryz.prog i_isHeldT:=find_ok (fC ⟨i_txsOf_ok,fC ⟨coI_ok,fN⟩⟩)
abbrev i_isHeldK:List Nat:= [0,1,2,4]
theorem i_isHeld_ev (N:Nat) (p q:List D):evFn Tryz.prog i_isHeldT N i_isHeldK Tryz.f110 rb [⟨ag rIShard,p⟩,⟨ri,q⟩]=some (bo,
 nd (leI ((gd p 5).rows.length:Int) 1000000000) (ob (hasInt (txsD (gd p 5)) (gd q 0).int))):=by kernel_rfl
def i_isHeldE:Ent:=(110,e2 (ag rIShard) ri fun p q=>(⟨rb,[.b (hasInt (txsD (gd p 5)) (gd q 0).int)]⟩,leI ((gd p 5).rows.length:Int) 1000000000))
theorem i_isHeld_ok:EntOk Tryz.prog i_isHeldE:=e2_ok fun p q h=>evFn_sound (N:=0) (ks:=i_isHeldK) (key:=bo) i_isHeldT_ok (enters Tryz.func110) Tryz.func110 fun hw=>by
 rw [i_isHeld_ev]
 have h:leI ((gd p 5).rows.length:Int) 1000000000=true:=h
 rw [h]
 rfl
abbrev s_l13HeldT:FuncId→List T→Option (T × Bool):=find []
theorem s_l13HeldT_ok:CallOk Tryz.prog s_l13HeldT:=find_ok (fN)
abbrev s_l13HeldK:List Nat:= [0,1,2,4,5,10,20]
noncomputable def s_l13HeldL0 (N:Nat) (p q:List D):List D→Out:=loopOf Tryz.prog s_l13HeldT N s_l13HeldK Tryz.f66 rb [⟨ag rIShard,p⟩,⟨ri,q⟩] 0
theorem s_l13HeldR0 (N:Nat) (p q:List D) (x0 x1 x2 x3 x4 x5 x6 x7 x8 x9 x10 x11 x12 x13 x14 x15 x16 x17 x18 x19 x20 x21:D):(s_l13HeldL0 N p q) [x0,x1,x2,x3,x4,x5,x6,x7,x8,x9,x10,x11,x12,x13,x14,x15,x16,x17,x18,x19,x20,x21] =
 bif ltI x12.int (x18.rows.length:Int) then nd (inRange x12.int x18.rows.length) (bif (gd (x18.rows.getD x12.int.toNat []) 0).int==x9.int then ob true
 else nx [x0,x1,x2,x3,x4,x5,x6,x7,x8,x9,x10,x11,.i (w64 (x12.int+1)),x13,x14,x15,x16,x17,x18,x19,x20,x21])
 else ex 0 [x0,x1,x2,x3,x4,x5,x6,x7,x8,x9,x10,x11,x12,x13,x14,x15,x16,x17,x18,x19,x20,x21]:=by kernel_rfl
theorem s_l13Held_ev (N:Nat) (p q:List D):evFn Tryz.prog s_l13HeldT N s_l13HeldK Tryz.f66 rb [⟨ag rIShard,p⟩,⟨ri,q⟩]=some (bo,
 (let o0:=iter (s_l13HeldL0 N p q) N [gd p 0,gd p 1,gd p 2,gd p 3,gd p 4,gd p 5,gd p 6,gd p 7,gd p 8,gd q 0,.i 0,.i 0,.i 0,gd p 0,gd p 1,gd p 2,gd p 3,gd p 4,gd p 5,gd p 6,gd p 7,gd p 8]
  nd o0.isSome (bif o0.code==1 then some (1,o0.pay)
  else nd (o0.code==2) (ob false)))):=by kernel_rfl
def hasTx (z:D) (n:Int):Bool:=(List.range z.rows.length).any fun k=>(gd (z.rows.getD k []) 0).int==n
def s_l13HeldE:Ent:=(66,e2 (ag rIShard) ri fun p q=>(⟨rb,[.b (hasTx (gd p 5) (gd q 0).int)]⟩,leI ((gd p 5).rows.length:Int) 1000000000))
theorem s_l13Held_ok:EntOk Tryz.prog s_l13HeldE:=e2_ok fun p q h=>evFn_sound (N:=(gd p 5).rows.length+1) (ks:=s_l13HeldK) (key:=bo) s_l13HeldT_ok (enters Tryz.func66) Tryz.func66 fun hw=>by
 rw [s_l13Held_ev]
 have h:leI ((gd p 5).rows.length:Int) 1000000000=true:=h
 have hn:((gd p 5).rows.length:Int)≤1000000000:=of_decide_eq_true h
 have e:=any_loop (L:=s_l13HeldL0 ((gd p 5).rows.length+1) p q) (fun k => [gd p 0,gd p 1,gd p 2,gd p 3,gd p 4,gd p 5,gd p 6,gd p 7,gd p 8,gd q 0,.i 0,.i 0,.i (k:Int),gd p 0,gd p 1,gd p 2,gd p 3,gd p 4,gd p 5,gd p 6,gd p 7,gd p 8]) (gd p 5).rows.length (fun k=>(gd ((gd p 5).rows.getD k []) 0).int==(gd q 0).int) [.b true] 0 (fun k hk=>?_) ?_ (N:=(gd p 5).rows.length+1) (by omega)
 ·simp only [Int.natCast_zero] at e
  rw [e]
  show some (bo,_)=some (bo,some (1,[D.b (hasTx (gd p 5) (gd q 0).int)]))
  unfold hasTx
  cases (List.range (gd p 5).rows.length).any fun k=>(gd ((gd p 5).rows.getD k []) 0).int==(gd q 0).int <;> rfl
 ·show s_l13HeldL0 _ p q [_,_,_,_,_,_,_,_,_,_,_,_,.i (k:Int),_,_,_,_,_,_,_,_,_]=_
  rw [s_l13HeldR0]
  simp only [int_i,c_lt hk,nd_ix hk,w64_succ hk (show (gd p 5).rows.length≤9223372036854775807 by omega),Int.toNat_natCast]
  cases (gd ((gd p 5).rows.getD k []) 0).int==(gd q 0).int <;> rfl
 ·show s_l13HeldL0 _ p q [_,_,_,_,_,_,_,_,_,_,_,_,.i ((gd p 5).rows.length:Int),_,_,_,_,_,_,_,_,_]=_
  rw [s_l13HeldR0]
  simp only [int_i,c_nlt]
abbrev s_l12KeepT:FuncId→List T→Option (T × Bool):=find []
theorem s_l12KeepT_ok:CallOk Tryz.prog s_l12KeepT:=find_ok (fN)
abbrev s_l12KeepK:List Nat:= [0,1,2,6,7,8,13,24]
noncomputable def s_l12KeepL0 (N:Nat) (p q r:List D):List D→Out:=loopOf Tryz.prog s_l12KeepT N s_l12KeepK Tryz.f144 (.one (.c (.d (.sl 93)))) [⟨sd (.sl 93),p⟩,⟨ri,q⟩,⟨rb,r⟩] 0
theorem s_l12KeepR0 (N:Nat) (p q r:List D) (x0 x1 x2 x3 x4 x5:D):(s_l12KeepL0 N p q r) [x0,x1,x2,x3,x4,x5] =
 bif ltI x5.int (x0.rows.length:Int) then nd (inRange x5.int x0.rows.length) (bif ((gd (x0.rows.getD x5.int.toNat []) 0).int==x1.int)==x2.bool then nd (inRange x5.int x0.rows.length) (nd (lenOk (x4.rows ++ [sub (x0.rows.getD x5.int.toNat []) 0 4])&&true) (nx [x0,x1,x2,x3,.l (x4.rows ++ [sub (x0.rows.getD x5.int.toNat []) 0 4]),.i (w64 (x5.int+1))]))
 else nx [x0,x1,x2,x3,x4,.i (w64 (x5.int+1))])
 else ex 0 [x0,x1,x2,x3,x4,x5]:=by kernel_rfl
theorem s_l12Keep_ev (N:Nat) (p q r:List D):evFn Tryz.prog s_l12KeepT N s_l12KeepK Tryz.f144 (.one (.c (.d (.sl 93)))) [⟨sd (.sl 93),p⟩,⟨ri,q⟩,⟨rb,r⟩]=some (bo,
 (let o0:=iter (s_l12KeepL0 N p q r) N [gd p 0,gd q 0,gd r 0,.l [],.l [],.i 0]
  nd o0.isSome (nd (o0.code==2) (some (1,[gd o0.pay 4]))))):=by kernel_rfl
def kpL (C:Nat→Bool) (f:Nat→List D):Nat→List (List D)
 | 0 => []
 | k+1=>bif C k then kpL C f k ++ [f k] else kpL C f k
theorem kpL_len (C:Nat→Bool) (f:Nat→List D):∀ k,(kpL C f k).length≤k
 | 0=>Nat.le_refl _
 | k+1=>by
  have:=kpL_len C f k
  rw [kpL]
  cases C k <;> simp <;> omega
def keepD (z:D) (n:Int) (own:Bool):D:=.l (kpL (fun k=>((gd (z.rows.getD k []) 0).int==n)==own) (fun k=>sub (z.rows.getD k []) 0 4) z.rows.length)
def s_l12KeepE:Ent:=(144,e3 (sd (.sl 93)) ri rb fun p q r=>(⟨.one (.c (.d (.sl 93))),[keepD (gd p 0) (gd q 0).int (gd r 0).bool]⟩,leI ((gd p 0).rows.length:Int) 1000000000))
theorem s_l12Keep_ok:EntOk Tryz.prog s_l12KeepE:=e3_ok fun p q r h=>evFn_sound (N:=(gd p 0).rows.length+1) (ks:=s_l12KeepK) (key:=bo) s_l12KeepT_ok (enters Tryz.func144) Tryz.func144 fun hw=>by
 rw [s_l12Keep_ev]
 have h:leI ((gd p 0).rows.length:Int) 1000000000=true:=h
 have hn:((gd p 0).rows.length:Int)≤1000000000:=of_decide_eq_true h
 have e:=run_loop (L:=s_l12KeepL0 ((gd p 0).rows.length+1) p q r) (fun k => [gd p 0,gd q 0,gd r 0,.l [],.l (kpL (fun k=>((gd ((gd p 0).rows.getD k []) 0).int==(gd q 0).int)==(gd r 0).bool) (fun k=>sub ((gd p 0).rows.getD k []) 0 4) k),.i (k:Int)]) (gd p 0).rows.length 0 (fun k hk=>?_) ?_ (N:=(gd p 0).rows.length+1) (by omega)
 ·simp only [Int.natCast_zero] at e
  rw [kpL] at e
  rw [e]
  rfl
 ·show s_l12KeepL0 _ p q r [_,_,_,_,_,.i (k:Int)]=_
  rw [s_l12KeepR0]
  have hlen:=kpL_len (fun k=>((gd ((gd p 0).rows.getD k []) 0).int==(gd q 0).int)==(gd r 0).bool) (fun k=>sub ((gd p 0).rows.getD k []) 0 4) k
  simp only [int_i,rows_l,c_lt hk,nd_ix hk,Int.toNat_natCast,w64_succ hk (by omega),lenOk_t (show (kpL (fun k=>((gd ((gd p 0).rows.getD k []) 0).int==(gd q 0).int)==(gd r 0).bool) (fun k=>sub ((gd p 0).rows.getD k []) 0 4) k ++ [sub ((gd p 0).rows.getD k []) 0 4]).length≤4294967296 by rw [List.length_append]; show _+1≤_; omega)]
  simp only [kpL]
  cases ((gd ((gd p 0).rows.getD k []) 0).int==(gd q 0).int)==(gd r 0).bool <;> rfl
 ·show s_l12KeepL0 _ p q r [_,_,_,_,_,.i ((gd p 0).rows.length:Int)]=_
  rw [s_l12KeepR0]
  simp only [int_i,c_nlt]
end Go.Proofs.YtpdfmcmnjikppaaGreat
namespace Go.Proofs.YtpdfmcmnjikppaaGreat
set_option maxRecDepth 4096
set_option maxHeartbeats 1000000
abbrev s_l12PutT:FuncId→List T→Option (T × Bool):=find []
theorem s_l12PutT_ok:CallOk Tryz.prog s_l12PutT:=find_ok (fN)
abbrev s_l12PutK:List Nat:= [0,1,4,5,6,7,12,24,34,43,3000002,3000008]
noncomputable def s_l12PutL0 (N:Nat) (p q:List D):List D→Out:=loopOf Tryz.prog s_l12PutT N s_l12PutK Tryz.f146 (.one (.c (.d (.sl 3)))) [⟨sd (.sl 3),p⟩,⟨ri,q⟩] 0
theorem s_l12PutR0 (N:Nat) (p q:List D) (x0 x1 x2 x3 x4 x5:D):(s_l12PutL0 N p q) [x0,x1,x2,x3,x4,x5] =
 bif ltI x5.int (x0.rows.length:Int) then bif !x4.bool then nd (inRange x5.int x0.rows.length) (bif leI x1.int (gd (x0.rows.getD x5.int.toNat []) 0).int then nd (lenOk (x3.rows ++ [[x1]])&&true) ((let r8:Out:=nx [x0,x1,x2,.l (x3.rows ++ [[x1]]),.b true,x5,.b (ltI x5.int (x0.rows.length:Int)),.b (leI x1.int (gd (x0.rows.getD x5.int.toNat []) 0).int)]
  nd r8.isSome (nd (inRange (gd r8.pay 5).int (gd r8.pay 0).rows.length) (bif (gd ((gd r8.pay 0).rows.getD (gd r8.pay 5).int.toNat []) 0).int != (gd r8.pay 1).int then nd (inRange (gd r8.pay 5).int (gd r8.pay 0).rows.length) (nd (lenOk ((gd r8.pay 3).rows ++ [[gd ((gd r8.pay 0).rows.getD (gd r8.pay 5).int.toNat []) 0]])&&true) (nx [gd r8.pay 0,gd r8.pay 1,gd r8.pay 2,.l ((gd r8.pay 3).rows ++ [[gd ((gd r8.pay 0).rows.getD (gd r8.pay 5).int.toNat []) 0]]),gd r8.pay 4,.i (w64 ((gd r8.pay 5).int+1))]))
  else nx [gd r8.pay 0,gd r8.pay 1,gd r8.pay 2,gd r8.pay 3,gd r8.pay 4,.i (w64 ((gd r8.pay 5).int+1))]))))
 else nd (inRange x5.int x0.rows.length) (bif (gd (x0.rows.getD x5.int.toNat []) 0).int != x1.int then nd (inRange x5.int x0.rows.length) (nd (lenOk (x3.rows ++ [[gd (x0.rows.getD x5.int.toNat []) 0]])&&true) (nx [x0,x1,x2,.l (x3.rows ++ [[gd (x0.rows.getD x5.int.toNat []) 0]]),x4,.i (w64 (x5.int+1))]))
 else nx [x0,x1,x2,x3,x4,.i (w64 (x5.int+1))]))
 else nd (inRange x5.int x0.rows.length) (bif (gd (x0.rows.getD x5.int.toNat []) 0).int != x1.int then nd (inRange x5.int x0.rows.length) (nd (lenOk (x3.rows ++ [[gd (x0.rows.getD x5.int.toNat []) 0]])&&true) (nx [x0,x1,x2,.l (x3.rows ++ [[gd (x0.rows.getD x5.int.toNat []) 0]]),x4,.i (w64 (x5.int+1))]))
 else nx [x0,x1,x2,x3,x4,.i (w64 (x5.int+1))])
 else ex 0 [x0,x1,x2,x3,x4,x5]:=by kernel_rfl
theorem s_l12Put_ev (N:Nat) (p q:List D):evFn Tryz.prog s_l12PutT N s_l12PutK Tryz.f146 (.one (.c (.d (.sl 3)))) [⟨sd (.sl 3),p⟩,⟨ri,q⟩]=some (bo,
 (let r2:Out:=nx [gd p 0,gd q 0,.l [],.l [],.b false]
  nd r2.isSome ((let o0:=iter (s_l12PutL0 N p q) N [gd r2.pay 0,gd r2.pay 1,gd r2.pay 2,gd r2.pay 3,gd r2.pay 4,.i 0]
  nd o0.isSome (nd (o0.code==2) (bif !(gd o0.pay 4).bool then nd (lenOk ((gd o0.pay 3).rows ++ [[gd o0.pay 1]])&&true) (some (1,[.l ((gd o0.pay 3).rows ++ [[gd o0.pay 1]])]))
  else some (1,[gd o0.pay 3]))))))):=by kernel_rfl
def putS (z n:D):Nat→List (List D) × Bool
 | 0=>([],false)
 | k+1 =>
  (bif (gd (z.rows.getD k []) 0).int != n.int then (bif !(putS z n k).2&&leI n.int (gd (z.rows.getD k []) 0).int then (putS z n k).1 ++ [[n]] else (putS z n k).1) ++ [[gd (z.rows.getD k []) 0]] else (bif !(putS z n k).2&&leI n.int (gd (z.rows.getD k []) 0).int then (putS z n k).1 ++ [[n]] else (putS z n k).1),(putS z n k).2||leI n.int (gd (z.rows.getD k []) 0).int)
theorem putS_len (z n:D):∀ k,(putS z n k).1.length≤2*k
 | 0=>Nat.le_refl _
 | k+1=>by
  have:=putS_len z n k
  rw [putS]
  cases (gd (z.rows.getD k []) 0).int != n.int <;> cases (putS z n k).2 <;> cases leI n.int (gd (z.rows.getD k []) 0).int <;> simp <;> omega
def putIntD (z n:D):D:=.l (bif (putS z n z.rows.length).2 then (putS z n z.rows.length).1 else (putS z n z.rows.length).1 ++ [[n]])
def s_l12PutE:Ent:=(146,e2 (sd (.sl 3)) ri fun p q=>(⟨.one (.c (.d (.sl 3))),[putIntD (gd p 0) (gd q 0)]⟩,leI ((gd p 0).rows.length:Int) 1000000000))
theorem s_l12Put_ok:EntOk Tryz.prog s_l12PutE:=e2_ok fun p q h=>evFn_sound (N:=(gd p 0).rows.length+1) (ks:=s_l12PutK) (key:=bo) s_l12PutT_ok (enters Tryz.func146) Tryz.func146 fun hw=>by
 rw [s_l12Put_ev]
 have h:leI ((gd p 0).rows.length:Int) 1000000000=true:=h
 have hn:((gd p 0).rows.length:Int)≤1000000000:=of_decide_eq_true h
 have e:=run_loop (L:=s_l12PutL0 ((gd p 0).rows.length+1) p q) (fun k => [gd p 0,gd q 0,.l [],.l (putS (gd p 0) (gd q 0) k).1,.b (putS (gd p 0) (gd q 0) k).2,.i (k:Int)]) (gd p 0).rows.length 0 (fun k hk=>?_) ?_ (N:=(gd p 0).rows.length+1) (by omega)
 ·simp only [Int.natCast_zero] at e
  rw [show (putS (gd p 0) (gd q 0) 0).1 = [] from rfl,show (putS (gd p 0) (gd q 0) 0).2=false from rfl] at e
  show some (bo,nd true (nd (iter (s_l12PutL0 ((gd p 0).rows.length+1) p q) ((gd p 0).rows.length+1) [gd p 0,gd q 0,.l [],.l [],.b false,.i 0]).isSome (nd ((iter (s_l12PutL0 ((gd p 0).rows.length+1) p q) ((gd p 0).rows.length+1) [gd p 0,gd q 0,.l [],.l [],.b false,.i 0]).code==2) (bif !(gd (iter (s_l12PutL0 ((gd p 0).rows.length+1) p q) ((gd p 0).rows.length+1) [gd p 0,gd q 0,.l [],.l [],.b false,.i 0]).pay 4).bool then nd (lenOk ((gd (iter (s_l12PutL0 ((gd p 0).rows.length+1) p q) ((gd p 0).rows.length+1) [gd p 0,gd q 0,.l [],.l [],.b false,.i 0]).pay 3).rows ++ [[gd (iter (s_l12PutL0 ((gd p 0).rows.length+1) p q) ((gd p 0).rows.length+1) [gd p 0,gd q 0,.l [],.l [],.b false,.i 0]).pay 1]])&&true) (some (1,[.l ((gd (iter (s_l12PutL0 ((gd p 0).rows.length+1) p q) ((gd p 0).rows.length+1) [gd p 0,gd q 0,.l [],.l [],.b false,.i 0]).pay 3).rows ++ [[gd (iter (s_l12PutL0 ((gd p 0).rows.length+1) p q) ((gd p 0).rows.length+1) [gd p 0,gd q 0,.l [],.l [],.b false,.i 0]).pay 1]])])) else some (1,[gd (iter (s_l12PutL0 ((gd p 0).rows.length+1) p q) ((gd p 0).rows.length+1) [gd p 0,gd q 0,.l [],.l [],.b false,.i 0]).pay 3])))))=_
  rw [e]
  have hlen:=putS_len (gd p 0) (gd q 0) (gd p 0).rows.length
  show some (bo,bif !(putS (gd p 0) (gd q 0) (gd p 0).rows.length).2 then nd (lenOk ((putS (gd p 0) (gd q 0) (gd p 0).rows.length).1 ++ [[gd q 0]])&&true) (some (1,[.l ((putS (gd p 0) (gd q 0) (gd p 0).rows.length).1 ++ [[gd q 0]])])) else some (1,[.l (putS (gd p 0) (gd q 0) (gd p 0).rows.length).1]))=some (bo,some (1,[putIntD (gd p 0) (gd q 0)]))
  rw [lenOk_t (by rw [List.length_append]; show _+1≤_; omega)]
  unfold putIntD
  cases (putS (gd p 0) (gd q 0) (gd p 0).rows.length).2 <;> rfl
 ·show s_l12PutL0 _ p q [_,_,_,_,_,.i (k:Int)]=_
  rw [s_l12PutR0]
  have hlen:=putS_len (gd p 0) (gd q 0) k
  have l1:lenOk ((putS (gd p 0) (gd q 0) k).1 ++ [[gd q 0]])=true:=lenOk_t (by rw [List.length_append]; show _+1≤_; omega)
  have l2:lenOk ((putS (gd p 0) (gd q 0) k).1 ++ [[gd ((gd p 0).rows.getD k []) 0]])=true:=lenOk_t (by rw [List.length_append]; show _+1≤_; omega)
  have l3:lenOk ((putS (gd p 0) (gd q 0) k).1 ++ [[gd q 0]] ++ [[gd ((gd p 0).rows.getD k []) 0]])=true:=lenOk_t (by rw [List.length_append,List.length_append]; show _+1+1≤_; omega)
  have hin:=inRange_nat hk
  have hw:=w64_succ hk (show (gd p 0).rows.length≤9223372036854775807 by omega)
  have g0:∀ (a b c d e f g h:D),gd [a,b,c,d,e,f,g,h] 0=a:=fun _ _ _ _ _ _ _ _=>rfl
  simp only [int_i,rows_l,bool_b,c_lt hk,nd_ix hk,Int.toNat_natCast,hw,l1,l2]
  rw [putS]
  cases hp:(putS (gd p 0) (gd q 0) k).2 with
  | true =>
   cases hd:(gd ((gd p 0).rows.getD k []) 0).int != (gd q 0).int <;> rfl
  | false =>
   cases hle:leI (gd q 0).int (gd ((gd p 0).rows.getD k []) 0).int with
   | false=>cases hd:(gd ((gd p 0).rows.getD k []) 0).int != (gd q 0).int <;> rfl
   | true =>
    show nd (inRange (k:Int) (gd p 0).rows.length) (bif (gd ((gd p 0).rows.getD (k:Int).toNat []) 0).int != (gd q 0).int then nd (inRange (k:Int) (gd p 0).rows.length) (nd (lenOk ((putS (gd p 0) (gd q 0) k).1 ++ [[gd q 0]] ++ [[gd ((gd p 0).rows.getD (k:Int).toNat []) 0]])&&true) (nx [gd p 0,gd q 0,.l [],.l ((putS (gd p 0) (gd q 0) k).1 ++ [[gd q 0]] ++ [[gd ((gd p 0).rows.getD (k:Int).toNat []) 0]]),.b true,.i (w64 ((k:Int)+1))])) else nx [gd p 0,gd q 0,.l [],.l ((putS (gd p 0) (gd q 0) k).1 ++ [[gd q 0]]),.b true,.i (w64 ((k:Int)+1))])=_
    simp only [nd_ix hk,Int.toNat_natCast,hw,l3]
    cases hd:(gd ((gd p 0).rows.getD k []) 0).int != (gd q 0).int <;> rfl
 ·show s_l12PutL0 _ p q [_,_,_,_,_,.i ((gd p 0).rows.length:Int)]=_
  rw [s_l12PutR0]
  simp only [int_i,c_nlt]
end Go.Proofs.YtpdfmcmnjikppaaGreat
namespace Go.Proofs.YtpdfmcmnjikppaaGreat
set_option maxRecDepth 4096
set_option maxHeartbeats 1000000
abbrev s_l13WoundT:FuncId→List T→Option (T × Bool):=find [s_l12KeepE,s_l12PutE]
theorem s_l13WoundT_ok:CallOk Tryz.prog s_l13WoundT:=find_ok (fC ⟨s_l12Keep_ok,fC ⟨s_l12Put_ok,fN⟩⟩)
abbrev s_l13WoundK:List Nat:= [0,1,2,4,5,9]
noncomputable def s_l13WoundL0 (N:Nat) (p q:List D):List D→Out:=loopOf Tryz.prog s_l13WoundT N s_l13WoundK Tryz.f67 (.one (.agg [.d si,.d (.sl 41),.d (.sl 41),.d (.sl 108),.d (.sl 93),.d (.sl 75),.d (.sl 3),.d (.sl 3),.d si])) [⟨ag rIShard,p⟩,⟨sd (.sl 3),q⟩] 0
theorem s_l13WoundR0 (N:Nat) (p q:List D) (x0 x1 x2 x3 x4 x5 x6 x7 x8 x9 x10 x11 x12 x13 x14 x15 x16 x17 x18 x19 x20 x21 x22 x23 x24 x25 x26 x27 x28 x29 x30:D):(s_l13WoundL0 N p q) [x0,x1,x2,x3,x4,x5,x6,x7,x8,x9,x10,x11,x12,x13,x14,x15,x16,x17,x18,x19,x20,x21,x22,x23,x24,x25,x26,x27,x28,x29,x30] =
 bif ltI x12.int (x9.rows.length:Int) then nd (inRange x12.int x9.rows.length) (nd (leI (x17.rows.length:Int) 1000000000) (nd (inRange x12.int x9.rows.length) (nd (leI (x19.rows.length:Int) 1000000000) (nx [x0,x1,x2,x3,x4,x5,x6,x7,x8,x9,x10,x11,.i (w64 (x12.int+1)),x13,x14,x15,x16,keepD x17 (gd (x9.rows.getD x12.int.toNat []) 0).int false,x18,putIntD x19 (gd (x9.rows.getD x12.int.toNat []) 0),x20,x21,x22,x23,x24,x25,x26,x27,x28,x29,x30]))))
 else ex 0 [x0,x1,x2,x3,x4,x5,x6,x7,x8,x9,x10,x11,x12,x13,x14,x15,x16,x17,x18,x19,x20,x21,x22,x23,x24,x25,x26,x27,x28,x29,x30]:=by kernel_rfl
theorem s_l13Wound_ev (N:Nat) (p q:List D):evFn Tryz.prog s_l13WoundT N s_l13WoundK Tryz.f67 (.one (.agg [.d si,.d (.sl 41),.d (.sl 41),.d (.sl 108),.d (.sl 93),.d (.sl 75),.d (.sl 3),.d (.sl 3),.d si])) [⟨ag rIShard,p⟩,⟨sd (.sl 3),q⟩]=some (bo,
 (let o0:=iter (s_l13WoundL0 N p q) N [gd p 0,gd p 1,gd p 2,gd p 3,gd p 4,gd p 5,gd p 6,gd p 7,gd p 8,gd q 0,.i 0,.i 0,.i 0,gd p 0,gd p 1,gd p 2,gd p 3,gd p 4,gd p 5,gd p 6,gd p 7,gd p 8,.i 0,.l [],.l [],.l [],.l [],.l [],.l [],.l [],.i 0]
  nd o0.isSome (nd (o0.code==2) (some (1,sub o0.pay 13 9))))):=by kernel_rfl
theorem putS_len1 (z n:D):∀ k,(putS z n k).1.length≤k+(putS z n k).2.toNat
 | 0=>Nat.le_refl _
 | k+1=>by
  have:=putS_len1 z n k
  rw [putS]
  revert this
  cases (gd (z.rows.getD k []) 0).int != n.int <;> cases (putS z n k).2 <;> cases leI n.int (gd (z.rows.getD k []) 0).int <;> simp <;> omega
theorem putIntD_len (z n:D):(putIntD z n).rows.length≤z.rows.length+1:=by
 have:=putS_len1 z n z.rows.length
 unfold putIntD
 revert this
 cases (putS z n z.rows.length).2 <;> simp [rows_l] <;> omega
theorem keepD_len (z:D) (n:Int) (own:Bool):(keepD z n own).rows.length≤z.rows.length:=kpL_len _ _ _
def woundS (l w z:D):Nat→D × D
 | 0=>(l,w)
 | k+1=>(keepD (woundS l w z k).1 (gd (z.rows.getD k []) 0).int false,putIntD (woundS l w z k).2 (gd (z.rows.getD k []) 0))
theorem woundS_len (l w z:D):∀ k,(woundS l w z k).1.rows.length≤l.rows.length∧(woundS l w z k).2.rows.length≤w.rows.length+k
 | 0=>⟨Nat.le_refl _,Nat.le_refl _⟩
 | k+1=>by
  obtain ⟨h1,h2⟩:=woundS_len l w z k
  have a1:=keepD_len (woundS l w z k).1 (gd (z.rows.getD k []) 0).int false
  have a2:=putIntD_len (woundS l w z k).2 (gd (z.rows.getD k []) 0)
  rw [woundS]
  exact ⟨by show (keepD _ _ _).rows.length≤_; omega,by show (putIntD _ _).rows.length≤_; omega⟩
def woundD (p:List D) (z:D):List D:= [gd p 0,gd p 1,gd p 2,gd p 3,(woundS (gd p 4) (gd p 6) z z.rows.length).1,gd p 5,(woundS (gd p 4) (gd p 6) z z.rows.length).2,gd p 7,gd p 8]
def s_l13WoundE:Ent:=(67,e2 (ag rIShard) (sd (.sl 3)) fun p q=>(⟨.one (.agg [.d si,.d (.sl 41),.d (.sl 41),.d (.sl 108),.d (.sl 93),.d (.sl 75),.d (.sl 3),.d (.sl 3),.d si]),sub (woundD p (gd q 0)) 0 9⟩,leI ((gd p 4).rows.length:Int) 100000000&&(leI ((gd p 6).rows.length:Int) 100000000&&leI ((gd q 0).rows.length:Int) 100000000)))
theorem s_l13Wound_ok:EntOk Tryz.prog s_l13WoundE:=e2_ok fun p q h=>evFn_sound (N:=(gd q 0).rows.length+1) (ks:=s_l13WoundK) (key:=bo) s_l13WoundT_ok (enters Tryz.func67) Tryz.func67 fun hw=>by
 rw [s_l13Wound_ev]
 have h:(leI ((gd p 4).rows.length:Int) 100000000&&(leI ((gd p 6).rows.length:Int) 100000000&&leI ((gd q 0).rows.length:Int) 100000000))=true:=h
 simp only [Bool.and_eq_true,leI,decide_eq_true_eq] at h
 obtain ⟨h1,h2,h3⟩:=h
 have e:=run_loop (L:=s_l13WoundL0 ((gd q 0).rows.length+1) p q) (fun k => [gd p 0,gd p 1,gd p 2,gd p 3,gd p 4,gd p 5,gd p 6,gd p 7,gd p 8,gd q 0,.i 0,.i 0,.i (k:Int),gd p 0,gd p 1,gd p 2,gd p 3,(woundS (gd p 4) (gd p 6) (gd q 0) k).1,gd p 5,(woundS (gd p 4) (gd p 6) (gd q 0) k).2,gd p 7,gd p 8,.i 0,.l [],.l [],.l [],.l [],.l [],.l [],.l [],.i 0]) (gd q 0).rows.length 0 (fun k hk=>?_) ?_ (N:=(gd q 0).rows.length+1) (by omega)
 ·simp only [Int.natCast_zero] at e
  rw [show (woundS (gd p 4) (gd p 6) (gd q 0) 0).1=gd p 4 from rfl,show (woundS (gd p 4) (gd p 6) (gd q 0) 0).2=gd p 6 from rfl] at e
  rw [e]
  rfl
 ·show s_l13WoundL0 _ p q [_,_,_,_,_,_,_,_,_,_,_,_,.i (k:Int),_,_,_,_,_,_,_,_,_,_,_,_,_,_,_,_,_,_]=_
  rw [s_l13WoundR0]
  obtain ⟨l1,l2⟩:=woundS_len (gd p 4) (gd p 6) (gd q 0) k
  have o1:leI ((woundS (gd p 4) (gd p 6) (gd q 0) k).1.rows.length:Int) 1000000000=true:=leI_t (by omega)
  have o2:leI ((woundS (gd p 4) (gd p 6) (gd q 0) k).2.rows.length:Int) 1000000000=true:=leI_t (by omega)
  simp only [int_i,c_lt hk,nd_ix hk,Int.toNat_natCast,w64_succ hk (show (gd q 0).rows.length≤9223372036854775807 by omega),o1,o2,nd_true]
  rfl
 ·show s_l13WoundL0 _ p q [_,_,_,_,_,_,_,_,_,_,_,_,.i ((gd q 0).rows.length:Int),_,_,_,_,_,_,_,_,_,_,_,_,_,_,_,_,_,_]=_
  rw [s_l13WoundR0]
  simp only [int_i,c_nlt]
end Go.Proofs.YtpdfmcmnjikppaaGreat
namespace Go.Proofs.YtpdfmcmnjikppaaGreat
open Go.RowKit Go.Lib
def insL (l:List Int) (n:Int):List Int:=l.filter (fun x=>decide (x<n))++n::l.filter (fun x=>decide (n<x))
theorem mem_insL {l:List Int} {n m:Int}:m∈insL l n↔m=n∨m∈l:=by
 simp only [insL,List.mem_append,List.mem_filter,List.mem_cons,decide_eq_true_eq]
 constructor
 ·rintro (h | h | h)
  ·exact .inr h.1
  ·exact .inl h
  ·exact .inr h.1
 ·rintro (h | h)
  ·exact .inr (.inl h)
  ·rcases Int.lt_trichotomy m n with h1 | h1 | h1
   ·exact .inl ⟨h,h1⟩
   ·exact .inr (.inl h1)
   ·exact .inr (.inr ⟨h,h1⟩)
theorem asc_insL {l:List Int} (h:l.Pairwise (· < ·)) (n:Int):(insL l n).Pairwise (· < ·):=by
 unfold insL
 rw [List.pairwise_append,List.pairwise_cons]
 refine ⟨h.filter _,⟨fun a ha=>?_,h.filter _⟩,fun a ha b hb=>?_⟩
 ·simpa using (List.mem_filter.1 ha).2
 ·have h1:a<n:=by simpa using (List.mem_filter.1 ha).2
  rcases List.mem_cons.1 hb with rfl | hb
  ·exact h1
  ·have h2:n<b:=by simpa using (List.mem_filter.1 hb).2
   omega
theorem asc_ext:∀ {a b:List Int},a.Pairwise (· < ·)→b.Pairwise (· < ·)→(∀ x,x∈a↔x∈b)→a=b
 | [],[],_,_,_=>rfl
 | [],y::b,_,_,h=>absurd ((h y).2 (by simp)) (by simp)
 | x::a,[],_,_,h=>absurd ((h x).1 (by simp)) (by simp)
 | x::a,y::b,ha,hb,h=>by
  rw [List.pairwise_cons] at ha hb
  have hxy:x=y:=by
   have h1:=(h x).1 (by simp)
   have h2:=(h y).2 (by simp)
   rcases List.mem_cons.1 h1 with h1 | h1
   ·exact h1
   ·rcases List.mem_cons.1 h2 with h2 | h2
    ·exact h2.symm
    ·have a1:=hb.1 x h1
     have a2:=ha.1 y h2
     omega
  subst hxy
  rw [asc_ext ha.2 hb.2 fun z=>?_]
  constructor
  ·intro hz
   rcases List.mem_cons.1 ((h z).1 (List.mem_cons_of_mem _ hz)) with h1 | h1
   ·have:=ha.1 z hz; omega
   ·exact h1
  ·intro hz
   rcases List.mem_cons.1 ((h z).2 (List.mem_cons_of_mem _ hz)) with h1 | h1
   ·have:=hb.1 z hz; omega
   ·exact h1
theorem take_succ' {l:List Int} {k:Nat} {x:Int} (h:l[k]?=some x):l.take (k+1)=l.take k ++ [x]:=by
 rw [List.take_add_one,h]
 rfl
theorem putS_nums {z n:D} (hz:(numsOf z).Pairwise (· < ·)):∀ k,k≤z.rows.length →
  (putS z n k).1.map (fun r=>(gd r 0).int)=((numsOf z).take k).filter (fun x=>decide (x<n.int))++((bif (putS z n k).2 then [n.int] else [])++((numsOf z).take k).filter (fun x=>decide (n.int<x))) ∧
  (putS z n k).2=((numsOf z).take k).any (fun x=>decide (n.int≤x))
 | 0,_=>⟨rfl,rfl⟩
 | k+1,hk=>by
  obtain ⟨h1,h2⟩:=putS_nums (n:=n) hz k (by omega)
  have hx:=numsOf_at z k (by omega)
  have ht:=take_succ' hx
  have hlt:∀ y∈(numsOf z).take k,y<(gd (z.rows.getD k []) 0).int:=by
   have hp:=hz.sublist (List.take_sublist (k+1) (numsOf z))
   rw [ht,List.pairwise_append] at hp
   exact fun y hy=>hp.2.2 y hy _ (by simp)
  rw [putS,ht]
  generalize gd (z.rows.getD k []) 0=d at *
  obtain ⟨S,hS⟩:∃ S,S=putS z n k:=⟨_,rfl⟩
  rw [← hS] at h1 h2 ⊢
  obtain ⟨rows,fl⟩:=S
  generalize (numsOf z).take k=t at *
  have h1:rows.map (fun r=>(gd r 0).int)=t.filter (fun x=>decide (x<n.int))++((bif fl then [n.int] else [])++t.filter (fun x=>decide (n.int<x))):=h1
  have h2:fl=t.any (fun x=>decide (n.int≤x)):=h2
  show (bif d.int != n.int then (bif !fl&&leI n.int d.int then rows ++ [[n]] else rows) ++ [[d]] else (bif !fl&&leI n.int d.int then rows ++ [[n]] else rows)).map (fun r=>(gd r 0).int)=(t ++ [d.int]).filter _++((bif fl||leI n.int d.int then [n.int] else [])++(t ++ [d.int]).filter _)∧(fl||leI n.int d.int)=(t ++ [d.int]).any _
  have hno:d.int≤n.int→fl=false∧t.filter (fun x=>decide (n.int<x)) = []:=fun hd=>by
   refine ⟨?_,?_⟩
   ·rw [h2,List.any_eq_false]
    intro y hy
    have:=hlt y hy
    simp; omega
   ·rw [List.filter_eq_nil_iff]
    intro y hy
    have:=hlt y hy
    simp; omega
  have hz1:fl=false→t.filter (fun x=>decide (n.int<x)) = []:=fun hf=>by
   rw [List.filter_eq_nil_iff]
   intro y hy
   rw [hf] at h2
   have:=List.any_eq_false.1 h2.symm y hy
   simp at this ⊢; omega
  refine ⟨?_,?_⟩
  ·rcases Int.lt_trichotomy d.int n.int with hd | hd | hd
   ·obtain ⟨rfl,hf⟩:=hno (by omega)
    rw [hf] at h1
    have b1:(d.int != n.int)=true:=by simp; omega
    rw [b1,leI_f hd]
    simp [gd_cons_zero,List.map_append,List.filter_append,hf,hd,h1,show ¬ n.int<d.int from by omega]
   ·obtain ⟨rfl,hf⟩:=hno (by omega)
    rw [hf] at h1
    have b1:(d.int != n.int)=false:=by simp [hd]
    rw [b1,leI_t (show n.int≤d.int by omega)]
    simp [gd_cons_zero,List.map_append,List.filter_append,hf,h1,hd]
   ·have b1:(d.int != n.int)=true:=by simp; omega
    rw [b1,leI_t (show n.int≤d.int by omega)]
    cases fl with
    | false =>
     have hf:=hz1 rfl
     rw [hf] at h1
     simp [gd_cons_zero,List.map_append,List.filter_append,hf,h1,hd,show ¬ d.int<n.int from by omega]
    | true=>simp [gd_cons_zero,List.map_append,List.filter_append,h1,hd,show ¬ d.int<n.int from by omega]
  ·rw [List.any_append,← h2]
   simp [leI]
theorem putIntD_nums {z n:D} (hz:(numsOf z).Pairwise (· < ·)):numsOf (putIntD z n)=insL (numsOf z) n.int:=by
 obtain ⟨h1,h2⟩:=putS_nums (n:=n) hz z.rows.length (Nat.le_refl _)
 rw [List.take_of_length_le (by rw [numsOf_len]; exact Nat.le_refl _)] at h1 h2
 unfold putIntD insL
 revert h1 h2
 cases hf:(putS z n z.rows.length).2 with
 | true =>
  intro h1 h2
  show (putS z n z.rows.length).1.map _=_
  rw [h1]; rfl
 | false =>
  intro h1 h2
  have hz1:(numsOf z).filter (fun x=>decide (n.int<x)) = []:=by
   rw [List.filter_eq_nil_iff]
   intro y hy
   have:=List.any_eq_false.1 h2.symm y hy
   simp at this ⊢; omega
  show ((putS z n z.rows.length).1 ++ [[n]]).map _=_
  rw [List.map_append,h1,hz1]
  simp [gd_cons_zero]
theorem asc_put {z n:D} (hz:(numsOf z).Pairwise (· < ·)):(numsOf (putIntD z n)).Pairwise (· < ·):=by
 rw [putIntD_nums hz]; exact asc_insL hz _
def ascB (z:D):Bool:=decide ((numsOf z).Pairwise (· < ·))
theorem ascB_t {z:D} (h:(numsOf z).Pairwise (· < ·)):ascB z=true:=decide_eq_true h
theorem asc_of {z:D} (h:ascB z=true):(numsOf z).Pairwise (· < ·):=of_decide_eq_true h
end Go.Proofs.YtpdfmcmnjikppaaGreat
namespace Go.Proofs.YtpdfmcmnjikppaaGreat
open Go.RowKit Go.Lib
theorem getD_row {l:List (List D)} {k:Nat} (h:k<l.length):l.getD k []=l[k]:=by simp [List.getD_eq_getElem?_getD,h]
theorem take_getD {l:List (List D)} {k:Nat} (h:k<l.length):l.take (k+1)=l.take k ++ [l.getD k []]:=by
 rw [List.take_add_one,List.getElem?_eq_getElem h,getD_row h]
 rfl
def lockOne (r:List D):Bool:=inB (gd r 0).int 1 60&&(rangeOk [gd r 1,gd r 2]&&i_isModeF [gd r 3])
theorem locksOk_iff (z:D):locksOk z=true↔(∀ r∈z.rows,lockOne r=true)∧z.rows.Pairwise (fun a b=>i_clashF b a=false)∧z.rows.length≤40:=by
 unfold locksOk
 simp only [Bool.and_eq_true,List.all_eq_true,List.mem_range,leI,decide_eq_true_eq]
 constructor
 ·rintro ⟨h,hl⟩
  refine ⟨fun r hr=>?_,List.pairwise_iff_getElem.2 fun i j hi hj hij=>?_,by omega⟩
  ·obtain ⟨k,hk,rfl⟩:=List.getElem_of_mem hr
   have:=h k hk
   rw [lockAt,getD_row hk] at this
   simp only [Bool.and_eq_true] at this
   simp only [lockOne,Bool.and_eq_true]
   exact ⟨this.1,this.2.1,this.2.2.1⟩
  ·have:=h j hj
   simp only [lockAt,Bool.and_eq_true,Bool.not_eq_true',List.any_eq_false,List.mem_range,Bool.not_eq_true] at this
   have:=this.2.2.2 i hij
   rwa [getD_row hj,getD_row hi] at this
 ·rintro ⟨h1,h2,h3⟩
  refine ⟨fun k hk=>?_,by omega⟩
  have a:=h1 _ (List.getElem_mem hk)
  simp only [lockOne,Bool.and_eq_true] at a
  simp only [lockAt,Bool.and_eq_true,Bool.not_eq_true',List.any_eq_false,List.mem_range,Bool.not_eq_true]
  rw [getD_row hk]
  refine ⟨a.1,a.2.1,a.2.2,fun j hj=>?_⟩
  rw [getD_row (by omega)]
  exact List.pairwise_iff_getElem.1 h2 j k (by omega) hk hj
theorem kpL_take (rows:List (List D)) (C:List D→Bool) (f:List D→List D):∀ k,k≤rows.length→kpL (fun k=>C (rows.getD k [])) (fun k=>f (rows.getD k [])) k=((rows.take k).filter C).map f
 | 0,_=>rfl
 | k+1,hk=>by
  rw [kpL,kpL_take rows C f k (by omega),take_getD (show k<rows.length by omega),List.filter_append,List.map_append]
  generalize rows.getD k []=r
  rw [List.filter_cons]
  cases C r <;> simp
theorem kpL_rows (rows:List (List D)) (C:List D→Bool) (f:List D→List D):kpL (fun k=>C (rows.getD k [])) (fun k=>f (rows.getD k [])) rows.length=(rows.filter C).map f:=by
 rw [kpL_take rows C f rows.length (Nat.le_refl _),List.take_length]
abbrev nrm (r:List D):List D:=sub r 0 4
theorem keepD_nrm (z:D) (n:Int):(keepD z n false).rows.map nrm=(z.rows.map nrm).filter fun r => !((gd r 0).int==n):=by
 unfold keepD
 rw [rows_l,kpL_rows z.rows (fun r=>((gd r 0).int==n)==false) (fun r=>sub r 0 4),List.map_map,List.filter_map]
 have e1:(nrm ∘ fun r=>sub r 0 4)=nrm:=rfl
 have e2:((fun r => !((gd r 0).int==n)) ∘ nrm)=fun r=>(((gd r 0).int==n)==false):=by
  funext r
  show (!((gd r 0).int==n))=(((gd r 0).int==n)==false)
  cases (gd r 0).int==n <;> rfl
 rw [e1,e2]
theorem eqLockS_nrm {x y:D} (h:x.rows.map nrm=y.rows.map nrm):eqLockS x y=true:=by
 have hl:x.rows.length=y.rows.length:=by
  have:=congrArg List.length h
  simpa using this
 unfold eqLockS alikeS
 rw [hl,beq_self_eq_true,Bool.true_and,List.all_eq_true]
 intro k hk
 have hk:=List.mem_range.1 hk
 have e:nrm (x.rows.getD k [])=nrm (y.rows.getD k []):=by
  have h1:(x.rows.map nrm)[k]?=(y.rows.map nrm)[k]?:=by rw [h]
  rw [List.getElem?_map,List.getElem?_map,List.getElem?_eq_getElem (by omega),List.getElem?_eq_getElem hk] at h1
  rw [getD_row (by omega),getD_row hk]
  simpa using h1
 show eqLock (nrm (x.rows.getD k [])) (nrm (y.rows.getD k []))=true
 rw [e]
 exact eqLock_refl _
def putsS (w t:D):Nat→D
 | 0=>w
 | k+1=>putIntD (putsS w t k) (gd (t.rows.getD k []) 0)
theorem putsS_mem {w t:D} (hw:(numsOf w).Pairwise (· < ·)):∀ k,k≤t.rows.length→(numsOf (putsS w t k)).Pairwise (· < ·)∧∀ m,m∈numsOf (putsS w t k)↔m∈numsOf w∨m∈(numsOf t).take k
 | 0,_=>⟨hw,fun m=>by simp [putsS]⟩
 | k+1,hk=>by
  obtain ⟨h1,h2⟩:=putsS_mem (t:=t) hw k (by omega)
  refine ⟨asc_put h1,fun m=>?_⟩
  rw [putsS,putIntD_nums h1,mem_insL,h2,take_succ' (numsOf_at t k (by omega))]
  simp only [List.mem_append,List.mem_singleton]
  constructor
  ·rintro (h | h | h)
   ·exact .inr (.inr h)
   ·exact .inl h
   ·exact .inr (.inl h)
  ·rintro (h | h | h)
   ·exact .inr (.inl h)
   ·exact .inr (.inr h)
   ·exact .inl h
theorem putsS_len (w t:D):∀ k,(putsS w t k).rows.length≤w.rows.length+k
 | 0=>Nat.le_refl _
 | k+1=>by
  have h1:=putsS_len w t k
  have h2:=putIntD_len (putsS w t k) (gd (t.rows.getD k []) 0)
  show (putIntD _ _).rows.length≤_
  omega
def touchS (l:D) (C:List D→Bool):Nat→D
 | 0=>.l []
 | k+1=>bif C (l.rows.getD k []) then putIntD (touchS l C k) (gd (l.rows.getD k []) 0) else touchS l C k
theorem touchS_mem (l:D) (C:List D→Bool):∀ k,k≤l.rows.length→(numsOf (touchS l C k)).Pairwise (· < ·)∧∀ m,m∈numsOf (touchS l C k)↔∃ r∈l.rows.take k,C r=true∧(gd r 0).int=m
 | 0,_=>⟨List.Pairwise.nil,fun m=>by simp [touchS,numsOf,D.rows]⟩
 | k+1,hk=>by
  obtain ⟨h1,h2⟩:=touchS_mem l C k (by omega)
  rw [take_getD (show k<l.rows.length by omega),touchS]
  generalize l.rows.getD k []=r
  cases hc:C r with
  | false =>
   refine ⟨h1,fun m=>?_⟩
   rw [cond_false,h2]
   constructor
   ·rintro ⟨x,hx,h⟩; exact ⟨x,by simp [hx],h⟩
   ·rintro ⟨x,hx,h,e⟩
    rcases List.mem_append.1 hx with hx | hx
    ·exact ⟨x,hx,h,e⟩
    ·rw [List.mem_singleton.1 hx,hc] at h; cases h
  | true =>
   refine ⟨asc_put h1,fun m=>?_⟩
   rw [cond_true,putIntD_nums h1,mem_insL,h2]
   constructor
   ·rintro (h | ⟨x,hx,h⟩)
    ·exact ⟨r,by simp,hc,h.symm⟩
    ·exact ⟨x,by simp [hx],h⟩
   ·rintro ⟨x,hx,h,e⟩
    rcases List.mem_append.1 hx with hx | hx
    ·exact .inr ⟨x,hx,h,e⟩
    ·rw [List.mem_singleton.1 hx] at e; exact .inl e.symm
theorem touchS_len (l:D) (C:List D→Bool):∀ k,(touchS l C k).rows.length≤k
 | 0=>Nat.le_refl _
 | k+1=>by
  have h1:=touchS_len l C k
  have h2:=putIntD_len (touchS l C k) (gd (l.rows.getD k []) 0)
  rw [touchS]
  cases C (l.rows.getD k [])
  ·show (touchS l C k).rows.length≤_; omega
  ·show (putIntD _ _).rows.length≤_; omega
end Go.Proofs.YtpdfmcmnjikppaaGreat
namespace Go.Proofs.YtpdfmcmnjikppaaGreat
set_option maxRecDepth 4096
set_option maxHeartbeats 1000000
def deepE (ds:List Nat):Ent:=(deepId,fun args=>match args with
 | [t]=>bif ds.contains (gd t.p 0).int.toNat then some (T.none_,false) else none
 | _=>none)
theorem deepE_ok {P:Program} (ds:List Nat):EntOk P (deepE ds):=by
 intro args r h
 unfold deepE at h
 simp only at h
 split at h
 ·rename_i t
  cases hc:ds.contains (gd t.p 0).int.toNat <;> rw [hc] at h <;> cases h
 ·cases h
def apartE:Ent:=(apartId,fun _=>some (T.none_,false))
theorem apartE_ok {P:Program}:EntOk P apartE:=by
 intro args r h
 unfold apartE at h
 cases h
theorem apart_ok {P:Program}:EntOk P apartE:=apartE_ok
def rDHeld:List Ce:= [.d si,.own (0,1) true 70]
def rDShard:List Ce:= [.d si,.own (0,1) true 41,.own (0,2) true 41,.own (0,3) true 108,.own (0,4) true 93,.own (0,1000005) true 75,.own (0,6) true 3,.own (0,7) true 3,.d si]
noncomputable def toIntSdL (N:Nat) (p:List D):List D→Out:=loopOf Tryz.prog (find []) N [0,2,3,4,11] Tryz.f71 (.one (.c (.own (0,0) true 3))) [⟨sd (.sl 3),p⟩] 0
theorem toIntSd_rd (p:List D) (N:Nat) (z x2:D) (rows:List (List D)) (k:Int):toIntSdL N p [z,x2,.l rows,.i k]=bif decide (k<z.rows.length) then nd (inRange k z.rows.length) (nd (okInt (z.rows.getD k.toNat [])) (nd (inRange k rows.length) (nx [z,x2,.l (rows.set k.toNat (cpInt (z.rows.getD k.toNat []))),.i (w64 (k+1))]))) else ex 0 [z,x2,.l rows,.i k]:=by kernel_rfl
theorem toIntSd_ev (p:List D) (N:Nat):evFn Tryz.prog (find []) N [0,2,3,4,11] Tryz.f71 (.one (.c (.own (0,0) true 3))) [⟨sd (.sl 3),p⟩]=some (bo,nd (decide (0≤((gd p 0).rows.length:Int))&&decide (((gd p 0).rows.length:Int)=((gd p 0).rows.length:Int))&&decide (((gd p 0).rows.length:Int)≤4294967296)&&true&&true)
  (let o:=iter (toIntSdL N p) N [gd p 0,.l [],.l (List.replicate (gd p 0).rows.length [.i 0]),.i 0]
   nd o.isSome (nd (o.code==2) (some (1,[gd o.pay 2]))))):=by kernel_rfl
def toIntSdE:Ent:=(71,e1 (sd (.sl 3)) fun p=>(⟨.one (.c (.own (0,0) true 3)),[cpIntS (gd p 0)]⟩,okIntS (gd p 0)))
theorem toIntSd_ok:EntOk Tryz.prog toIntSdE:=e1_ok fun p h=>evFn_sound (N:=(gd p 0).rows.length+1) (ks:= [0,2,3,4,11]) (key:=bo) (find_ok (fN)) (enters Tryz.func71) Tryz.func71 fun hw=>by
 have h:okIntS (gd p 0)=true:=h
 simp only [okIntS,Bool.and_eq_true,decide_eq_true_eq,List.all_eq_true] at h
 rw [toIntSd_ev,fill_loop (ok:=fun r=>okInt r) (f:=fun r=>cpInt r) [.i 0] (wt_sl (hw ⟨sd (.sl 3),p⟩ (by simp))) h.2 (toIntSd_rd p _ _ _) (by omega)]
 rw [show decide (((gd p 0).rows.length:Int)≤4294967296)=true from decide_eq_true (by omega),show decide (0≤((gd p 0).rows.length:Int))=true from decide_eq_true (by omega),decide_eq_true (rfl:((gd p 0).rows.length:Int)=_)]
 rfl
noncomputable def toCellSdL (N:Nat) (p:List D):List D→Out:=loopOf Tryz.prog (find [toCellE]) N [0,2,3,4,11] Tryz.f32 (.one (.c (.own (0,0) true 108))) [⟨sd (.sl 139),p⟩] 0
theorem toCellSd_rd (p:List D) (N:Nat) (z x2:D) (rows:List (List D)) (k:Int):toCellSdL N p [z,x2,.l rows,.i k]=bif decide (k<z.rows.length) then nd (inRange k z.rows.length) (nd (okCell (sub (z.rows.getD k.toNat []) 0 2)) (nd (inRange k rows.length) (nx [z,x2,.l (rows.set k.toNat (cpCell (sub (z.rows.getD k.toNat []) 0 2))),.i (w64 (k+1))]))) else ex 0 [z,x2,.l rows,.i k]:=by kernel_rfl
theorem toCellSd_ev (p:List D) (N:Nat):evFn Tryz.prog (find [toCellE]) N [0,2,3,4,11] Tryz.f32 (.one (.c (.own (0,0) true 108))) [⟨sd (.sl 139),p⟩]=some (bo,nd (decide (0≤((gd p 0).rows.length:Int))&&decide (((gd p 0).rows.length:Int)=((gd p 0).rows.length:Int))&&decide (((gd p 0).rows.length:Int)≤4294967296)&&true&&true)
  (let o:=iter (toCellSdL N p) N [gd p 0,.l [],.l (List.replicate (gd p 0).rows.length [.i 0,.i 0]),.i 0]
   nd o.isSome (nd (o.code==2) (some (1,[gd o.pay 2]))))):=by kernel_rfl
def toCellSdE:Ent:=(32,e1 (sd (.sl 139)) fun p=>(⟨.one (.c (.own (0,0) true 108)),[cpCellS (gd p 0)]⟩,okCellS (gd p 0)))
theorem toCellSd_ok:EntOk Tryz.prog toCellSdE:=e1_ok fun p h=>evFn_sound (N:=(gd p 0).rows.length+1) (ks:= [0,2,3,4,11]) (key:=bo) (find_ok (fC ⟨toCell_ok,fN⟩)) (enters Tryz.func32) Tryz.func32 fun hw=>by
 have h:okCellS (gd p 0)=true:=h
 simp only [okCellS,Bool.and_eq_true,decide_eq_true_eq,List.all_eq_true] at h
 rw [toCellSd_ev,fill_loop (ok:=fun r=>okCell (sub r 0 2)) (f:=fun r=>cpCell (sub r 0 2)) [.i 0,.i 0] (wt_sl (hw ⟨sd (.sl 139),p⟩ (by simp))) h.2 (toCellSd_rd p _ _ _) (by omega)]
 rw [show decide (((gd p 0).rows.length:Int)≤4294967296)=true from decide_eq_true (by omega),show decide (0≤((gd p 0).rows.length:Int))=true from decide_eq_true (by omega),decide_eq_true (rfl:((gd p 0).rows.length:Int)=_)]
 rfl
noncomputable def toRangeSdL (N:Nat) (p:List D):List D→Out:=loopOf Tryz.prog (find [toRangeE]) N [0,2,3,4,11] Tryz.f23 (.one (.c (.own (0,0) true 41))) [⟨sd (.sl 30),p⟩] 0
theorem toRangeSd_rd (p:List D) (N:Nat) (z x2:D) (rows:List (List D)) (k:Int):toRangeSdL N p [z,x2,.l rows,.i k]=bif decide (k<z.rows.length) then nd (inRange k z.rows.length) (nd (okRange (sub (z.rows.getD k.toNat []) 0 2)) (nd (inRange k rows.length) (nx [z,x2,.l (rows.set k.toNat (cpRange (sub (z.rows.getD k.toNat []) 0 2))),.i (w64 (k+1))]))) else ex 0 [z,x2,.l rows,.i k]:=by kernel_rfl
theorem toRangeSd_ev (p:List D) (N:Nat):evFn Tryz.prog (find [toRangeE]) N [0,2,3,4,11] Tryz.f23 (.one (.c (.own (0,0) true 41))) [⟨sd (.sl 30),p⟩]=some (bo,nd (decide (0≤((gd p 0).rows.length:Int))&&decide (((gd p 0).rows.length:Int)=((gd p 0).rows.length:Int))&&decide (((gd p 0).rows.length:Int)≤4294967296)&&true&&true)
  (let o:=iter (toRangeSdL N p) N [gd p 0,.l [],.l (List.replicate (gd p 0).rows.length [.i 0,.i 0]),.i 0]
   nd o.isSome (nd (o.code==2) (some (1,[gd o.pay 2]))))):=by kernel_rfl
def toRangeSdE:Ent:=(23,e1 (sd (.sl 30)) fun p=>(⟨.one (.c (.own (0,0) true 41)),[cpRangeS (gd p 0)]⟩,okRangeS (gd p 0)))
theorem toRangeSd_ok:EntOk Tryz.prog toRangeSdE:=e1_ok fun p h=>evFn_sound (N:=(gd p 0).rows.length+1) (ks:= [0,2,3,4,11]) (key:=bo) (find_ok (fC ⟨toRange_ok,fN⟩)) (enters Tryz.func23) Tryz.func23 fun hw=>by
 have h:okRangeS (gd p 0)=true:=h
 simp only [okRangeS,Bool.and_eq_true,decide_eq_true_eq,List.all_eq_true] at h
 rw [toRangeSd_ev,fill_loop (ok:=fun r=>okRange (sub r 0 2)) (f:=fun r=>cpRange (sub r 0 2)) [.i 0,.i 0] (wt_sl (hw ⟨sd (.sl 30),p⟩ (by simp))) h.2 (toRangeSd_rd p _ _ _) (by omega)]
 rw [show decide (((gd p 0).rows.length:Int)≤4294967296)=true from decide_eq_true (by omega),show decide (0≤((gd p 0).rows.length:Int))=true from decide_eq_true (by omega),decide_eq_true (rfl:((gd p 0).rows.length:Int)=_)]
 rfl
noncomputable def toWriteSdL (N:Nat) (p:List D):List D→Out:=loopOf Tryz.prog (find [toWriteE]) N [0,2,3,4,11] Tryz.f24 (.one (.c (.own (0,0) true 70))) [⟨sd (.sl 124),p⟩] 0
theorem toWriteSd_rd (p:List D) (N:Nat) (z x2:D) (rows:List (List D)) (k:Int):toWriteSdL N p [z,x2,.l rows,.i k]=bif decide (k<z.rows.length) then nd (inRange k z.rows.length) (nd (okWrite (sub (z.rows.getD k.toNat []) 0 2)) (nd (inRange k rows.length) (nx [z,x2,.l (rows.set k.toNat (cpWrite (sub (z.rows.getD k.toNat []) 0 2))),.i (w64 (k+1))]))) else ex 0 [z,x2,.l rows,.i k]:=by kernel_rfl
theorem toWriteSd_ev (p:List D) (N:Nat):evFn Tryz.prog (find [toWriteE]) N [0,2,3,4,11] Tryz.f24 (.one (.c (.own (0,0) true 70))) [⟨sd (.sl 124),p⟩]=some (bo,nd (decide (0≤((gd p 0).rows.length:Int))&&decide (((gd p 0).rows.length:Int)=((gd p 0).rows.length:Int))&&decide (((gd p 0).rows.length:Int)≤4294967296)&&true&&true)
  (let o:=iter (toWriteSdL N p) N [gd p 0,.l [],.l (List.replicate (gd p 0).rows.length [.i 0,.i 0]),.i 0]
   nd o.isSome (nd (o.code==2) (some (1,[gd o.pay 2]))))):=by kernel_rfl
def toWriteSdE:Ent:=(24,e1 (sd (.sl 124)) fun p=>(⟨.one (.c (.own (0,0) true 70)),[cpWriteS (gd p 0)]⟩,okWriteS (gd p 0)))
theorem toWriteSd_ok:EntOk Tryz.prog toWriteSdE:=e1_ok fun p h=>evFn_sound (N:=(gd p 0).rows.length+1) (ks:= [0,2,3,4,11]) (key:=bo) (find_ok (fC ⟨toWrite_ok,fN⟩)) (enters Tryz.func24) Tryz.func24 fun hw=>by
 have h:okWriteS (gd p 0)=true:=h
 simp only [okWriteS,Bool.and_eq_true,decide_eq_true_eq,List.all_eq_true] at h
 rw [toWriteSd_ev,fill_loop (ok:=fun r=>okWrite (sub r 0 2)) (f:=fun r=>cpWrite (sub r 0 2)) [.i 0,.i 0] (wt_sl (hw ⟨sd (.sl 124),p⟩ (by simp))) h.2 (toWriteSd_rd p _ _ _) (by omega)]
 rw [show decide (((gd p 0).rows.length:Int)≤4294967296)=true from decide_eq_true (by omega),show decide (0≤((gd p 0).rows.length:Int))=true from decide_eq_true (by omega),decide_eq_true (rfl:((gd p 0).rows.length:Int)=_)]
 rfl
noncomputable def toLockSdL (N:Nat) (p:List D):List D→Out:=loopOf Tryz.prog (find [toLockE]) N [0,2,3,4,11] Tryz.f69 (.one (.c (.own (0,0) true 93))) [⟨sd (.sl 174),p⟩] 0
theorem toLockSd_rd (p:List D) (N:Nat) (z x2:D) (rows:List (List D)) (k:Int):toLockSdL N p [z,x2,.l rows,.i k]=bif decide (k<z.rows.length) then nd (inRange k z.rows.length) (nd (okLock (sub (z.rows.getD k.toNat []) 0 4)) (nd (inRange k rows.length) (nx [z,x2,.l (rows.set k.toNat (cpLock (sub (z.rows.getD k.toNat []) 0 4))),.i (w64 (k+1))]))) else ex 0 [z,x2,.l rows,.i k]:=by kernel_rfl
theorem toLockSd_ev (p:List D) (N:Nat):evFn Tryz.prog (find [toLockE]) N [0,2,3,4,11] Tryz.f69 (.one (.c (.own (0,0) true 93))) [⟨sd (.sl 174),p⟩]=some (bo,nd (decide (0≤((gd p 0).rows.length:Int))&&decide (((gd p 0).rows.length:Int)=((gd p 0).rows.length:Int))&&decide (((gd p 0).rows.length:Int)≤4294967296)&&true&&true)
  (let o:=iter (toLockSdL N p) N [gd p 0,.l [],.l (List.replicate (gd p 0).rows.length [.i 0,.i 0,.i 0,.i 0]),.i 0]
   nd o.isSome (nd (o.code==2) (some (1,[gd o.pay 2]))))):=by kernel_rfl
def toLockSdE:Ent:=(69,e1 (sd (.sl 174)) fun p=>(⟨.one (.c (.own (0,0) true 93)),[cpLockS (gd p 0)]⟩,okLockS (gd p 0)))
theorem toLockSd_ok:EntOk Tryz.prog toLockSdE:=e1_ok fun p h=>evFn_sound (N:=(gd p 0).rows.length+1) (ks:= [0,2,3,4,11]) (key:=bo) (find_ok (fC ⟨toLock_ok,fN⟩)) (enters Tryz.func69) Tryz.func69 fun hw=>by
 have h:okLockS (gd p 0)=true:=h
 simp only [okLockS,Bool.and_eq_true,decide_eq_true_eq,List.all_eq_true] at h
 rw [toLockSd_ev,fill_loop (ok:=fun r=>okLock (sub r 0 4)) (f:=fun r=>cpLock (sub r 0 4)) [.i 0,.i 0,.i 0,.i 0] (wt_sl (hw ⟨sd (.sl 174),p⟩ (by simp))) h.2 (toLockSd_rd p _ _ _) (by omega)]
 rw [show decide (((gd p 0).rows.length:Int)≤4294967296)=true from decide_eq_true (by omega),show decide (0≤((gd p 0).rows.length:Int))=true from decide_eq_true (by omega),decide_eq_true (rfl:((gd p 0).rows.length:Int)=_)]
 rfl
theorem toHeldd_ev (p:List D) (N:Nat):evFn Tryz.prog (find [toWriteSdE]) N [0,1,2,3] Tryz.f191 (.one (.agg rDHeld)) [⟨ag rLHeld,p⟩]=some (bo,nd (okWriteS (gd p 1)) (some (1,cpHeld p))):=by kernel_rfl
def toHelddE:Ent:=(191,e1 (ag rLHeld) fun p=>(⟨.one (.agg rDHeld),cpHeld p⟩,okHeld p))
theorem toHeldd_ok:EntOk Tryz.prog toHelddE:=e1_ok fun p h=>evFn_sound (N:=0) (ks:= [0,1,2,3]) (key:=bo) (find_ok (fC ⟨toWriteSd_ok,fN⟩)) (enters Tryz.func191) Tryz.func191 fun _=>by
 have h:okHeld p=true:=h
 simp only [okHeld,Bool.and_eq_true] at h
 rw [toHeldd_ev]
 simp only [nd,h,cond_true]
noncomputable def toHeldSdL (N:Nat) (p:List D):List D→Out:=loopOf Tryz.prog (find [toHelddE,deepE [7]]) N [0,2,3,4,11] Tryz.f70 (.one (.c (.own (0,1000000) true 75))) [⟨sd (.sl 170),p⟩] 0
theorem toHeldSd_rd (p:List D) (N:Nat) (z x2:D) (rows:List (List D)) (k:Int):toHeldSdL N p [z,x2,.l rows,.i k]=bif decide (k<z.rows.length) then nd (inRange k z.rows.length) (nd (okHeld (sub (z.rows.getD k.toNat []) 0 2)) (nd (inRange k rows.length) (nx [z,x2,.l (rows.set k.toNat (cpHeld (sub (z.rows.getD k.toNat []) 0 2))),.i (w64 (k+1))]))) else ex 0 [z,x2,.l rows,.i k]:=by kernel_rfl
theorem toHeldSd_ev (p:List D) (N:Nat):evFn Tryz.prog (find [toHelddE,deepE [7]]) N [0,2,3,4,11] Tryz.f70 (.one (.c (.own (0,1000000) true 75))) [⟨sd (.sl 170),p⟩]=some (bo,nd (decide (0≤((gd p 0).rows.length:Int))&&decide (((gd p 0).rows.length:Int)=((gd p 0).rows.length:Int))&&decide (((gd p 0).rows.length:Int)≤4294967296)&&true&&true)
  (let o:=iter (toHeldSdL N p) N [gd p 0,.l [],.l (List.replicate (gd p 0).rows.length [.i 0,.l []]),.i 0]
   nd o.isSome (nd (o.code==2) (some (1,[gd o.pay 2]))))):=by kernel_rfl
def toHeldSdE:Ent:=(70,e1 (sd (.sl 170)) fun p=>(⟨.one (.c (.own (0,1000000) true 75)),[cpHeldS (gd p 0)]⟩,okHeldS (gd p 0)))
theorem toHeldSd_ok:EntOk Tryz.prog toHeldSdE:=e1_ok fun p h=>evFn_sound (N:=(gd p 0).rows.length+1) (ks:= [0,2,3,4,11]) (key:=bo) (find_ok (fC ⟨toHeldd_ok,fC ⟨deepE_ok _,fN⟩⟩)) (enters Tryz.func70) Tryz.func70 fun hw=>by
 have h:okHeldS (gd p 0)=true:=h
 simp only [okHeldS,Bool.and_eq_true,decide_eq_true_eq,List.all_eq_true] at h
 rw [toHeldSd_ev,fill_loop (ok:=fun r=>okHeld (sub r 0 2)) (f:=fun r=>cpHeld (sub r 0 2)) [.i 0,.l []] (wt_sl (hw ⟨sd (.sl 170),p⟩ (by simp))) h.2 (toHeldSd_rd p _ _ _) (by omega)]
 rw [show decide (((gd p 0).rows.length:Int)≤4294967296)=true from decide_eq_true (by omega),show decide (0≤((gd p 0).rows.length:Int))=true from decide_eq_true (by omega),decide_eq_true (rfl:((gd p 0).rows.length:Int)=_)]
 rfl
theorem toShardd_ev (p:List D) (N:Nat):evFn Tryz.prog (find [toRangeSdE,toRangeSdE,toCellSdE,toLockSdE,toHeldSdE,toIntSdE,toIntSdE]) N [0,1,2,3] Tryz.f11 (.one (.agg rDShard)) [⟨ag rLShard,p⟩]=some (bo,nd (okRangeS (gd p 1)) (nd (okRangeS (gd p 2)) (nd (okCellS (gd p 3)) (nd (okLockS (gd p 4)) (nd (okHeldS (gd p 5)) (nd (okIntS (gd p 6)) (nd (okIntS (gd p 7)) (some (1,cpShard p))))))))):=by kernel_rfl
def toSharddE:Ent:=(11,e1 (ag rLShard) fun p=>(⟨.one (.agg rDShard),cpShard p⟩,okShard p))
theorem toShardd_ok:EntOk Tryz.prog toSharddE:=e1_ok fun p h=>evFn_sound (N:=0) (ks:= [0,1,2,3]) (key:=bo) (find_ok (fC ⟨toRangeSd_ok,fC ⟨toRangeSd_ok,fC ⟨toCellSd_ok,fC ⟨toLockSd_ok,fC ⟨toHeldSd_ok,fC ⟨toIntSd_ok,fC ⟨toIntSd_ok,fN⟩⟩⟩⟩⟩⟩⟩)) (enters Tryz.func11) Tryz.func11 fun _=>by
 have h:okShard p=true:=h
 simp only [okShard,Bool.and_eq_true] at h
 rw [toShardd_ev]
 simp only [nd,h,cond_true]
end Go.Proofs.YtpdfmcmnjikppaaGreat
namespace Go.Proofs.YtpdfmcmnjikppaaGreat
set_option maxRecDepth 4096
set_option maxHeartbeats 1000000
def i_copySharddE:Ent:=deepE [28,44]
theorem i_copyShardd_ok:EntOk Tryz.prog i_copySharddE:=deepE_ok _
abbrev i_copyShardT:FuncId→List T→Option (T × Bool):=find [i_clonRangeE,i_clonCE,i_clonLockE,i_clonE,i_clonWriteE,i_copySharddE]
theorem i_copyShardT_ok:CallOk Tryz.prog i_copyShardT:=find_ok (fC ⟨i_clonRange_ok,fC ⟨i_clonC_ok,fC ⟨i_clonLock_ok,fC ⟨i_clon_ok,fC ⟨i_clonWrite_ok,fC ⟨i_copyShardd_ok,fN⟩⟩⟩⟩⟩⟩)
abbrev i_copyShardK:List Nat:= [0,1,2,3,5,30,31,32,33]
noncomputable def i_copyShardL0 (N:Nat) (p:List D):List D→Out:=loopOf Tryz.prog i_copyShardT N i_copyShardK Tryz.f74 (.one (.agg rDShard)) [⟨ag rIShard,p⟩] 0
theorem i_copyShardR0 (N:Nat) (p:List D) (x0 x1 x2 x3 x4 x5 x6 x7 x8 x9 x10 x11 x12 x13 x14 x15 x16 x17 x18 x19 x20 x21 x22 x23 x24 x25 x26 x27 x28 x29 x30 x31 x32 x33 x34 x35 x36 x37 x38 x39 x40 x41:D):(i_copyShardL0 N p) [x0,x1,x2,x3,x4,x5,x6,x7,x8,x9,x10,x11,x12,x13,x14,x15,x16,x17,x18,x19,x20,x21,x22,x23,x24,x25,x26,x27,x28,x29,x30,x31,x32,x33,x34,x35,x36,x37,x38,x39,x40,x41] =
 bif ltI x14.int x13.int then nd (inRange x14.int x12.rows.length) (nd (leI ((gd (x12.rows.getD x14.int.toNat []) 1).rows.length:Int) 2000000) (nd (lenOk (x38.rows ++ [[gd (x12.rows.getD x14.int.toNat []) 0,.l (gd (x12.rows.getD x14.int.toNat []) 1).rows]])&&true) (nx [x0,x1,x2,x3,x4,x5,x6,x7,x8,x9,x10,x11,x12,x13,.i (w64 (x14.int+1)),x15,x16,x17,x18,x19,x20,x21,x22,x23,x24,x25,x26,x27,x28,x29,x30,x31,x32,x33,x34,x35,x36,x37,.l (x38.rows ++ [[gd (x12.rows.getD x14.int.toNat []) 0,.l (gd (x12.rows.getD x14.int.toNat []) 1).rows]]),x39,x40,x41])))
 else ex 0 [x0,x1,x2,x3,x4,x5,x6,x7,x8,x9,x10,x11,x12,x13,x14,x15,x16,x17,x18,x19,x20,x21,x22,x23,x24,x25,x26,x27,x28,x29,x30,x31,x32,x33,x34,x35,x36,x37,x38,x39,x40,x41]:=by kernel_rfl
theorem i_copyShard_ev (N:Nat) (p:List D):evFn Tryz.prog i_copyShardT N i_copyShardK Tryz.f74 (.one (.agg rDShard)) [⟨ag rIShard,p⟩]=some (bo,
 nd ((leI ((gd p 1).rows.length:Int) 2000000)&&((leI ((gd p 2).rows.length:Int) 2000000)&&((leI ((gd p 3).rows.length:Int) 1000000)&&((leI ((gd p 4).rows.length:Int) 2000000)&&((leI ((gd p 6).rows.length:Int) 1000000000)&&((leI ((gd p 7).rows.length:Int) 1000000000)&&true)))))) (nd (((leI ((gd p 1).rows.length:Int) 2000000)&&((leI ((gd p 2).rows.length:Int) 2000000)&&((leI ((gd p 3).rows.length:Int) 1000000)&&((leI ((gd p 4).rows.length:Int) 2000000)&&((leI ((gd p 6).rows.length:Int) 1000000000)&&((leI ((gd p 7).rows.length:Int) 1000000000)&&true))))))&&(sameP [[.i 0],[gd p 0,.l (gd p 1).rows,.l (gd p 2).rows,.l (gd p 3).rows,.l (gd p 4).rows,.l [],.l (gd p 6).rows,.l (gd p 7).rows,gd p 8],[.l (gd p 7).rows],[.l (gd p 6).rows],[.l (gd p 4).rows],[.l (gd p 3).rows],[.l (gd p 2).rows],[.l (gd p 1).rows],[gd p 8],[.i 0],[gd p 7],[.i 0],[gd p 6],[.i 0],[gd p 4],[.i 0],[gd p 3],[.i 0],[gd p 2],[.i 0],[gd p 1],[.i 0],[gd p 0],[.i 0],p,[.i 0],[.i 0],[gd p 0,gd p 1,gd p 2,gd p 3,gd p 4,gd p 5,gd p 6,gd p 7,gd p 8],[.i 0,.l [],.l [],.l [],.l [],.l [],.l [],.l [],.i 0],[gd p 0,.l (gd p 1).rows,.l (gd p 2).rows,.l (gd p 3).rows,.l (gd p 4).rows,.l [],.l (gd p 6).rows,.l (gd p 7).rows,gd p 8]] [[.i 0],[gd p 0,.l (gd p 1).rows,.l (gd p 2).rows,.l (gd p 3).rows,.l (gd p 4).rows,.l [],.l (gd p 6).rows,.l (gd p 7).rows,gd p 8],[.l (gd p 7).rows],[.l (gd p 6).rows],[.l (gd p 4).rows],[.l (gd p 3).rows],[.l (gd p 2).rows],[.l (gd p 1).rows],[gd p 8],[.i 0],[gd p 7],[.i 0],[gd p 6],[.i 0],[gd p 4],[.i 0],[gd p 3],[.i 0],[gd p 2],[.i 0],[gd p 1],[.i 0],[gd p 0],[.i 0],p,[.i 0],[.i 0],[gd p 0,gd p 1,gd p 2,gd p 3,gd p 4,gd p 5,gd p 6,gd p 7,gd p 8],[.i 0,.l [],.l [],.l [],.l [],.l [],.l [],.l [],.i 0],[gd p 0,.l (gd p 1).rows,.l (gd p 2).rows,.l (gd p 3).rows,.l (gd p 4).rows,.l [],.l (gd p 6).rows,.l (gd p 7).rows,gd p 8]])) (nd (((leI ((gd p 1).rows.length:Int) 2000000)&&((leI ((gd p 2).rows.length:Int) 2000000)&&((leI ((gd p 3).rows.length:Int) 1000000)&&((leI ((gd p 4).rows.length:Int) 2000000)&&((leI ((gd p 6).rows.length:Int) 1000000000)&&((leI ((gd p 7).rows.length:Int) 1000000000)&&true))))))&&(sameP [[.i 0],[gd p 0,.l (gd p 1).rows,.l (gd p 2).rows,.l (gd p 3).rows,.l (gd p 4).rows,.l [],.l (gd p 6).rows,.l (gd p 7).rows,gd p 8],[.l (gd p 7).rows],[.l (gd p 6).rows],[.l (gd p 4).rows],[.l (gd p 3).rows],[.l (gd p 2).rows],[.l (gd p 1).rows],[gd p 8],[.i 0],[gd p 7],[.i 0],[gd p 6],[.i 0],[gd p 4],[.i 0],[gd p 3],[.i 0],[gd p 2],[.i 0],[gd p 1],[.i 0],[gd p 0],[.i 0],p,[.i 0],[.i 0],[gd p 0,gd p 1,gd p 2,gd p 3,gd p 4,gd p 5,gd p 6,gd p 7,gd p 8],[.i 0,.l [],.l [],.l [],.l [],.l [],.l [],.l [],.i 0],[gd p 0,.l (gd p 1).rows,.l (gd p 2).rows,.l (gd p 3).rows,.l (gd p 4).rows,.l [],.l (gd p 6).rows,.l (gd p 7).rows,gd p 8]] [[.i 0],[gd p 0,.l (gd p 1).rows,.l (gd p 2).rows,.l (gd p 3).rows,.l (gd p 4).rows,.l [],.l (gd p 6).rows,.l (gd p 7).rows,gd p 8],[.l (gd p 7).rows],[.l (gd p 6).rows],[.l (gd p 4).rows],[.l (gd p 3).rows],[.l (gd p 2).rows],[.l (gd p 1).rows],[gd p 8],[.i 0],[gd p 7],[.i 0],[gd p 6],[.i 0],[gd p 4],[.i 0],[gd p 3],[.i 0],[gd p 2],[.i 0],[gd p 1],[.i 0],[gd p 0],[.i 0],p,[.i 0],[.i 0],[gd p 0,gd p 1,gd p 2,gd p 3,gd p 4,gd p 5,gd p 6,gd p 7,gd p 8],[.i 0,.l [],.l [],.l [],.l [],.l [],.l [],.l [],.i 0],[gd p 0,.l (gd p 1).rows,.l (gd p 2).rows,.l (gd p 3).rows,.l (gd p 4).rows,.l [],.l (gd p 6).rows,.l (gd p 7).rows,gd p 8]])) (nd (((leI ((gd p 1).rows.length:Int) 2000000)&&((leI ((gd p 2).rows.length:Int) 2000000)&&((leI ((gd p 3).rows.length:Int) 1000000)&&((leI ((gd p 4).rows.length:Int) 2000000)&&((leI ((gd p 6).rows.length:Int) 1000000000)&&((leI ((gd p 7).rows.length:Int) 1000000000)&&true))))))&&(sameP [[.i 0],[gd p 0,.l (gd p 1).rows,.l (gd p 2).rows,.l (gd p 3).rows,.l (gd p 4).rows,.l [],.l (gd p 6).rows,.l (gd p 7).rows,gd p 8],[.l (gd p 7).rows],[.l (gd p 6).rows],[.l (gd p 4).rows],[.l (gd p 3).rows],[.l (gd p 2).rows],[.l (gd p 1).rows],[gd p 8],[.i 0],[gd p 7],[.i 0],[gd p 6],[.i 0],[gd p 4],[.i 0],[gd p 3],[.i 0],[gd p 2],[.i 0],[gd p 1],[.i 0],[gd p 0],[.i 0],p,[.i 0],[.i 0],[gd p 0,gd p 1,gd p 2,gd p 3,gd p 4,gd p 5,gd p 6,gd p 7,gd p 8],[.i 0,.l [],.l [],.l [],.l [],.l [],.l [],.l [],.i 0],[gd p 0,.l (gd p 1).rows,.l (gd p 2).rows,.l (gd p 3).rows,.l (gd p 4).rows,.l [],.l (gd p 6).rows,.l (gd p 7).rows,gd p 8]] [[.i 0],[gd p 0,.l (gd p 1).rows,.l (gd p 2).rows,.l (gd p 3).rows,.l (gd p 4).rows,.l [],.l (gd p 6).rows,.l (gd p 7).rows,gd p 8],[.l (gd p 7).rows],[.l (gd p 6).rows],[.l (gd p 4).rows],[.l (gd p 3).rows],[.l (gd p 2).rows],[.l (gd p 1).rows],[gd p 8],[.i 0],[gd p 7],[.i 0],[gd p 6],[.i 0],[gd p 4],[.i 0],[gd p 3],[.i 0],[gd p 2],[.i 0],[gd p 1],[.i 0],[gd p 0],[.i 0],p,[.i 0],[.i 0],[gd p 0,gd p 1,gd p 2,gd p 3,gd p 4,gd p 5,gd p 6,gd p 7,gd p 8],[.i 0,.l [],.l [],.l [],.l [],.l [],.l [],.l [],.i 0],[gd p 0,.l (gd p 1).rows,.l (gd p 2).rows,.l (gd p 3).rows,.l (gd p 4).rows,.l [],.l (gd p 6).rows,.l (gd p 7).rows,gd p 8]])) (nd (((leI ((gd p 1).rows.length:Int) 2000000)&&((leI ((gd p 2).rows.length:Int) 2000000)&&((leI ((gd p 3).rows.length:Int) 1000000)&&((leI ((gd p 4).rows.length:Int) 2000000)&&((leI ((gd p 6).rows.length:Int) 1000000000)&&((leI ((gd p 7).rows.length:Int) 1000000000)&&true))))))&&(sameP [[.i 0],[gd p 0,.l (gd p 1).rows,.l (gd p 2).rows,.l (gd p 3).rows,.l (gd p 4).rows,.l [],.l (gd p 6).rows,.l (gd p 7).rows,gd p 8],[.l (gd p 7).rows],[.l (gd p 6).rows],[.l (gd p 4).rows],[.l (gd p 3).rows],[.l (gd p 2).rows],[.l (gd p 1).rows],[gd p 8],[.i 0],[gd p 7],[.i 0],[gd p 6],[.i 0],[gd p 4],[.i 0],[gd p 3],[.i 0],[gd p 2],[.i 0],[gd p 1],[.i 0],[gd p 0],[.i 0],p,[.i 0],[.i 0],[gd p 0,gd p 1,gd p 2,gd p 3,gd p 4,gd p 5,gd p 6,gd p 7,gd p 8],[.i 0,.l [],.l [],.l [],.l [],.l [],.l [],.l [],.i 0],[gd p 0,.l (gd p 1).rows,.l (gd p 2).rows,.l (gd p 3).rows,.l (gd p 4).rows,.l [],.l (gd p 6).rows,.l (gd p 7).rows,gd p 8]] [[.i 0],[gd p 0,.l (gd p 1).rows,.l (gd p 2).rows,.l (gd p 3).rows,.l (gd p 4).rows,.l [],.l (gd p 6).rows,.l (gd p 7).rows,gd p 8],[.l (gd p 7).rows],[.l (gd p 6).rows],[.l (gd p 4).rows],[.l (gd p 3).rows],[.l (gd p 2).rows],[.l (gd p 1).rows],[gd p 8],[.i 0],[gd p 7],[.i 0],[gd p 6],[.i 0],[gd p 4],[.i 0],[gd p 3],[.i 0],[gd p 2],[.i 0],[gd p 1],[.i 0],[gd p 0],[.i 0],p,[.i 0],[.i 0],[gd p 0,gd p 1,gd p 2,gd p 3,gd p 4,gd p 5,gd p 6,gd p 7,gd p 8],[.i 0,.l [],.l [],.l [],.l [],.l [],.l [],.l [],.i 0],[gd p 0,.l (gd p 1).rows,.l (gd p 2).rows,.l (gd p 3).rows,.l (gd p 4).rows,.l [],.l (gd p 6).rows,.l (gd p 7).rows,gd p 8]])) (nd (((leI ((gd p 1).rows.length:Int) 2000000)&&((leI ((gd p 2).rows.length:Int) 2000000)&&((leI ((gd p 3).rows.length:Int) 1000000)&&((leI ((gd p 4).rows.length:Int) 2000000)&&((leI ((gd p 6).rows.length:Int) 1000000000)&&((leI ((gd p 7).rows.length:Int) 1000000000)&&true))))))&&(sameP [[.i 0],[gd p 0,.l (gd p 1).rows,.l (gd p 2).rows,.l (gd p 3).rows,.l (gd p 4).rows,.l [],.l (gd p 6).rows,.l (gd p 7).rows,gd p 8],[.l (gd p 7).rows],[.l (gd p 6).rows],[.l (gd p 4).rows],[.l (gd p 3).rows],[.l (gd p 2).rows],[.l (gd p 1).rows],[gd p 8],[.i 0],[gd p 7],[.i 0],[gd p 6],[.i 0],[gd p 4],[.i 0],[gd p 3],[.i 0],[gd p 2],[.i 0],[gd p 1],[.i 0],[gd p 0],[.i 0],p,[.i 0],[.i 0],[gd p 0,gd p 1,gd p 2,gd p 3,gd p 4,gd p 5,gd p 6,gd p 7,gd p 8],[.i 0,.l [],.l [],.l [],.l [],.l [],.l [],.l [],.i 0],[gd p 0,.l (gd p 1).rows,.l (gd p 2).rows,.l (gd p 3).rows,.l (gd p 4).rows,.l [],.l (gd p 6).rows,.l (gd p 7).rows,gd p 8]] [[.i 0],[gd p 0,.l (gd p 1).rows,.l (gd p 2).rows,.l (gd p 3).rows,.l (gd p 4).rows,.l [],.l (gd p 6).rows,.l (gd p 7).rows,gd p 8],[.l (gd p 7).rows],[.l (gd p 6).rows],[.l (gd p 4).rows],[.l (gd p 3).rows],[.l (gd p 2).rows],[.l (gd p 1).rows],[gd p 8],[.i 0],[gd p 7],[.i 0],[gd p 6],[.i 0],[gd p 4],[.i 0],[gd p 3],[.i 0],[gd p 2],[.i 0],[gd p 1],[.i 0],[gd p 0],[.i 0],p,[.i 0],[.i 0],[gd p 0,gd p 1,gd p 2,gd p 3,gd p 4,gd p 5,gd p 6,gd p 7,gd p 8],[.i 0,.l [],.l [],.l [],.l [],.l [],.l [],.l [],.i 0],[gd p 0,.l (gd p 1).rows,.l (gd p 2).rows,.l (gd p 3).rows,.l (gd p 4).rows,.l [],.l (gd p 6).rows,.l (gd p 7).rows,gd p 8]])) (nd (((leI ((gd p 1).rows.length:Int) 2000000)&&((leI ((gd p 2).rows.length:Int) 2000000)&&((leI ((gd p 3).rows.length:Int) 1000000)&&((leI ((gd p 4).rows.length:Int) 2000000)&&((leI ((gd p 6).rows.length:Int) 1000000000)&&((leI ((gd p 7).rows.length:Int) 1000000000)&&true))))))&&(sameP [[.i 0],[gd p 0,.l (gd p 1).rows,.l (gd p 2).rows,.l (gd p 3).rows,.l (gd p 4).rows,.l [],.l (gd p 6).rows,.l (gd p 7).rows,gd p 8],[.l (gd p 7).rows],[.l (gd p 6).rows],[.l (gd p 4).rows],[.l (gd p 3).rows],[.l (gd p 2).rows],[.l (gd p 1).rows],[gd p 8],[.i 0],[gd p 7],[.i 0],[gd p 6],[.i 0],[gd p 4],[.i 0],[gd p 3],[.i 0],[gd p 2],[.i 0],[gd p 1],[.i 0],[gd p 0],[.i 0],p,[.i 0],[.i 0],[gd p 0,gd p 1,gd p 2,gd p 3,gd p 4,gd p 5,gd p 6,gd p 7,gd p 8],[.i 0,.l [],.l [],.l [],.l [],.l [],.l [],.l [],.i 0],[gd p 0,.l (gd p 1).rows,.l (gd p 2).rows,.l (gd p 3).rows,.l (gd p 4).rows,.l [],.l (gd p 6).rows,.l (gd p 7).rows,gd p 8]] [[.i 0],[gd p 0,.l (gd p 1).rows,.l (gd p 2).rows,.l (gd p 3).rows,.l (gd p 4).rows,.l [],.l (gd p 6).rows,.l (gd p 7).rows,gd p 8],[.l (gd p 7).rows],[.l (gd p 6).rows],[.l (gd p 4).rows],[.l (gd p 3).rows],[.l (gd p 2).rows],[.l (gd p 1).rows],[gd p 8],[.i 0],[gd p 7],[.i 0],[gd p 6],[.i 0],[gd p 4],[.i 0],[gd p 3],[.i 0],[gd p 2],[.i 0],[gd p 1],[.i 0],[gd p 0],[.i 0],p,[.i 0],[.i 0],[gd p 0,gd p 1,gd p 2,gd p 3,gd p 4,gd p 5,gd p 6,gd p 7,gd p 8],[.i 0,.l [],.l [],.l [],.l [],.l [],.l [],.l [],.i 0],[gd p 0,.l (gd p 1).rows,.l (gd p 2).rows,.l (gd p 3).rows,.l (gd p 4).rows,.l [],.l (gd p 6).rows,.l (gd p 7).rows,gd p 8]])) (nd (((leI ((gd p 1).rows.length:Int) 2000000)&&((leI ((gd p 2).rows.length:Int) 2000000)&&((leI ((gd p 3).rows.length:Int) 1000000)&&((leI ((gd p 4).rows.length:Int) 2000000)&&((leI ((gd p 6).rows.length:Int) 1000000000)&&((leI ((gd p 7).rows.length:Int) 1000000000)&&true))))))&&(sameP [[.i 0],[gd p 0,.l (gd p 1).rows,.l (gd p 2).rows,.l (gd p 3).rows,.l (gd p 4).rows,.l [],.l (gd p 6).rows,.l (gd p 7).rows,gd p 8],[.l (gd p 7).rows],[.l (gd p 6).rows],[.l (gd p 4).rows],[.l (gd p 3).rows],[.l (gd p 2).rows],[.l (gd p 1).rows],[gd p 8],[.i 0],[gd p 7],[.i 0],[gd p 6],[.i 0],[gd p 4],[.i 0],[gd p 3],[.i 0],[gd p 2],[.i 0],[gd p 1],[.i 0],[gd p 0],[.i 0],p,[.i 0],[.i 0],[gd p 0,gd p 1,gd p 2,gd p 3,gd p 4,gd p 5,gd p 6,gd p 7,gd p 8],[.i 0,.l [],.l [],.l [],.l [],.l [],.l [],.l [],.i 0],[gd p 0,.l (gd p 1).rows,.l (gd p 2).rows,.l (gd p 3).rows,.l (gd p 4).rows,.l [],.l (gd p 6).rows,.l (gd p 7).rows,gd p 8]] [[.i 0],[gd p 0,.l (gd p 1).rows,.l (gd p 2).rows,.l (gd p 3).rows,.l (gd p 4).rows,.l [],.l (gd p 6).rows,.l (gd p 7).rows,gd p 8],[.l (gd p 7).rows],[.l (gd p 6).rows],[.l (gd p 4).rows],[.l (gd p 3).rows],[.l (gd p 2).rows],[.l (gd p 1).rows],[gd p 8],[.i 0],[gd p 7],[.i 0],[gd p 6],[.i 0],[gd p 4],[.i 0],[gd p 3],[.i 0],[gd p 2],[.i 0],[gd p 1],[.i 0],[gd p 0],[.i 0],p,[.i 0],[.i 0],[gd p 0,gd p 1,gd p 2,gd p 3,gd p 4,gd p 5,gd p 6,gd p 7,gd p 8],[.i 0,.l [],.l [],.l [],.l [],.l [],.l [],.l [],.i 0],[gd p 0,.l (gd p 1).rows,.l (gd p 2).rows,.l (gd p 3).rows,.l (gd p 4).rows,.l [],.l (gd p 6).rows,.l (gd p 7).rows,gd p 8]])) ((let o0:=iter (i_copyShardL0 N p) N [gd p 0,gd p 1,gd p 2,gd p 3,gd p 4,gd p 5,gd p 6,gd p 7,gd p 8,.i 0,.i 0,.i 0,gd p 5,.i ((gd p 5).rows.length:Int),.i 0,gd p 0,gd p 1,gd p 2,gd p 3,gd p 4,gd p 5,gd p 6,gd p 7,gd p 8,.i 0,.l [],.l [],.l [],.l [],.l [],.l [],.l [],.i 0,gd p 0,.l (gd p 1).rows,.l (gd p 2).rows,.l (gd p 3).rows,.l (gd p 4).rows,.l [],.l (gd p 6).rows,.l (gd p 7).rows,gd p 8]
  nd o0.isSome (nd (o0.code==2) (some (1,sub o0.pay 33 9))))))))))))):=by kernel_rfl
def dupShard (p:List D):List D:= [gd p 0,.l (gd p 1).rows,.l (gd p 2).rows,.l (gd p 3).rows,.l (gd p 4).rows,.l (kpL (fun _=>true) (fun k => [gd ((gd p 5).rows.getD k []) 0,.l (gd ((gd p 5).rows.getD k []) 1).rows]) (gd p 5).rows.length),.l (gd p 6).rows,.l (gd p 7).rows,gd p 8]
def dupOk (p:List D):Bool:=leI ((gd p 1).rows.length:Int) 1000000&&(leI ((gd p 2).rows.length:Int) 1000000&&(leI ((gd p 3).rows.length:Int) 1000000&&(leI ((gd p 4).rows.length:Int) 1000000&&(leI ((gd p 5).rows.length:Int) 1000000&&(leI ((gd p 6).rows.length:Int) 1000000&&(leI ((gd p 7).rows.length:Int) 1000000&&(List.range (gd p 5).rows.length).all fun k=>leI ((gd ((gd p 5).rows.getD k []) 1).rows.length:Int) 1000000))))))
def i_copyShardE:Ent:=(74,e1 (ag rIShard) fun p=>(⟨.one (.agg rDShard),sub (dupShard p) 0 9⟩,dupOk p))
theorem i_copyShard_ok:EntOk Tryz.prog i_copyShardE:=e1_ok fun p h=>evFn_sound (N:=(gd p 5).rows.length+1) (ks:=i_copyShardK) (key:=bo) i_copyShardT_ok (enters Tryz.func74) Tryz.func74 fun hw=>by
 rw [i_copyShard_ev]
 have h:dupOk p=true:=h
 unfold dupOk at h
 simp only [Bool.and_eq_true] at h
 obtain ⟨h1,h2,h3,h4,h5,h6,h7,h8⟩:=h
 have hw:∀ k,k<(gd p 5).rows.length→leI ((gd ((gd p 5).rows.getD k []) 1).rows.length:Int) 1000000=true:=fun k hk=>List.all_eq_true.1 h8 k (List.mem_range.2 hk)
 simp only [leI,decide_eq_true_eq] at h1 h2 h3 h4 h5 h6 h7 hw
 have q1:leI ((gd p 1).rows.length:Int) 2000000=true:=leI_t (by omega)
 have q2:leI ((gd p 2).rows.length:Int) 2000000=true:=leI_t (by omega)
 have q3:leI ((gd p 3).rows.length:Int) 1000000=true:=leI_t (by omega)
 have q4:leI ((gd p 4).rows.length:Int) 2000000=true:=leI_t (by omega)
 have q6:leI ((gd p 6).rows.length:Int) 1000000000=true:=leI_t (by omega)
 have q7:leI ((gd p 7).rows.length:Int) 1000000000=true:=leI_t (by omega)
 simp only [q1,q2,q3,q4,q6,q7,Bool.and_true,Bool.and_self,sameP_self,nd_true]
 have e:=run_loop (L:=i_copyShardL0 ((gd p 5).rows.length+1) p) (fun k => [gd p 0,gd p 1,gd p 2,gd p 3,gd p 4,gd p 5,gd p 6,gd p 7,gd p 8,.i 0,.i 0,.i 0,gd p 5,.i ((gd p 5).rows.length:Int),.i (k:Int),gd p 0,gd p 1,gd p 2,gd p 3,gd p 4,gd p 5,gd p 6,gd p 7,gd p 8,.i 0,.l [],.l [],.l [],.l [],.l [],.l [],.l [],.i 0,gd p 0,.l (gd p 1).rows,.l (gd p 2).rows,.l (gd p 3).rows,.l (gd p 4).rows,.l (kpL (fun _=>true) (fun k => [gd ((gd p 5).rows.getD k []) 0,.l (gd ((gd p 5).rows.getD k []) 1).rows]) k),.l (gd p 6).rows,.l (gd p 7).rows,gd p 8]) (gd p 5).rows.length 0 (fun k hk=>?_) ?_ (N:=(gd p 5).rows.length+1) (by omega)
 ·simp only [Int.natCast_zero,show kpL (fun _=>true) (fun k => [gd ((gd p 5).rows.getD k []) 0,.l (gd ((gd p 5).rows.getD k []) 1).rows]) 0 = [] from rfl] at e
  rw [e]
  rfl
 ·show i_copyShardL0 _ p [_,_,_,_,_,_,_,_,_,_,_,_,_,_,.i (k:Int),_,_,_,_,_,_,_,_,_,_,_,_,_,_,_,_,_,_,_,_,_,_,_,_,_,_,_]=_
  rw [i_copyShardR0]
  have hk1:=hw k hk
  have hlen:=kpL_len (fun _=>true) (fun k => [gd ((gd p 5).rows.getD k []) 0,.l (gd ((gd p 5).rows.getD k []) 1).rows]) k
  have l1:leI ((gd ((gd p 5).rows.getD k []) 1).rows.length:Int) 2000000=true:=leI_t (by omega)
  have l2:lenOk (kpL (fun _=>true) (fun k => [gd ((gd p 5).rows.getD k []) 0,.l (gd ((gd p 5).rows.getD k []) 1).rows]) k ++ [[gd ((gd p 5).rows.getD k []) 0,D.l (gd ((gd p 5).rows.getD k []) 1).rows]])=true:=lenOk_t (by rw [List.length_append]; show _+1≤_; omega)
  simp only [int_i,rows_l,c_lt hk,nd_ix hk,Int.toNat_natCast,w64_succ hk (show (gd p 5).rows.length≤9223372036854775807 by omega),l1,l2,Bool.and_self,nd_true]
  rfl
 ·show i_copyShardL0 _ p [_,_,_,_,_,_,_,_,_,_,_,_,_,_,.i ((gd p 5).rows.length:Int),_,_,_,_,_,_,_,_,_,_,_,_,_,_,_,_,_,_,_,_,_,_,_,_,_,_,_]=_
  rw [i_copyShardR0]
  simp only [int_i,c_nlt]
abbrev s_l13CopyT:FuncId→List T→Option (T × Bool):=find []
theorem s_l13CopyT_ok:CallOk Tryz.prog s_l13CopyT:=find_ok (fN)
abbrev s_l13CopyK:List Nat:= [0,1,2,3,4,5,35]
noncomputable def s_l13CopyL0 (N:Nat) (p:List D):List D→Out:=loopOf Tryz.prog s_l13CopyT N s_l13CopyK Tryz.f61 (.one (.agg [.d si,.d (.sl 41),.d (.sl 41),.d (.sl 108),.d (.sl 93),.d (.sl 75),.d (.sl 3),.d (.sl 3),.d si])) [⟨ag rIShard,p⟩] 0
theorem s_l13CopyR0 (N:Nat) (p:List D) (x0 x1 x2 x3 x4 x5 x6 x7 x8 x9 x10 x11 x12 x13 x14 x15 x16 x17 x18 x19 x20 x21 x22 x23 x24 x25 x26 x27 x28 x29 x30 x31 x32 x33 x34 x35 x36 x37 x38 x39:D):(s_l13CopyL0 N p) [x0,x1,x2,x3,x4,x5,x6,x7,x8,x9,x10,x11,x12,x13,x14,x15,x16,x17,x18,x19,x20,x21,x22,x23,x24,x25,x26,x27,x28,x29,x30,x31,x32,x33,x34,x35,x36,x37,x38,x39] =
 bif ltI x12.int (x18.rows.length:Int) then nd (inRange x12.int x18.rows.length) (nd (lenOk ([]++(gd (x18.rows.getD x12.int.toNat []) 1).rows)&&true) (nd (lenOk (x36.rows ++ [[gd (x18.rows.getD x12.int.toNat []) 0,.l ([]++(gd (x18.rows.getD x12.int.toNat []) 1).rows)]])&&true) (nx [x0,x1,x2,x3,x4,x5,x6,x7,x8,x9,x10,x11,.i (w64 (x12.int+1)),x13,x14,x15,x16,x17,x18,x19,x20,x21,x22,x23,x24,x25,x26,x27,x28,x29,x30,x31,x32,x33,x34,x35,.l (x36.rows ++ [[gd (x18.rows.getD x12.int.toNat []) 0,.l ([]++(gd (x18.rows.getD x12.int.toNat []) 1).rows)]]),x37,x38,x39])))
 else ex 0 [x0,x1,x2,x3,x4,x5,x6,x7,x8,x9,x10,x11,x12,x13,x14,x15,x16,x17,x18,x19,x20,x21,x22,x23,x24,x25,x26,x27,x28,x29,x30,x31,x32,x33,x34,x35,x36,x37,x38,x39]:=by kernel_rfl
theorem s_l13Copy_ev (N:Nat) (p:List D):evFn Tryz.prog s_l13CopyT N s_l13CopyK Tryz.f61 (.one (.agg [.d si,.d (.sl 41),.d (.sl 41),.d (.sl 108),.d (.sl 93),.d (.sl 75),.d (.sl 3),.d (.sl 3),.d si])) [⟨ag rIShard,p⟩]=some (bo,
 nd (lenOk ([]++(gd p 1).rows)&&true) (nd (lenOk ([]++(gd p 2).rows)&&true) (nd (lenOk ([]++(gd p 3).rows)&&true) (nd (lenOk ([]++(gd p 4).rows)&&true) ((let o0:=iter (s_l13CopyL0 N p) N [gd p 0,gd p 1,gd p 2,gd p 3,gd p 4,gd p 5,gd p 6,gd p 7,gd p 8,.i 0,.i 0,.i 0,.i 0,gd p 0,gd p 1,gd p 2,gd p 3,gd p 4,gd p 5,gd p 6,gd p 7,gd p 8,.i 0,.l [],.l [],.l [],.l [],.l [],.l [],.l [],.i 0,gd p 0,.l ([]++(gd p 1).rows),.l ([]++(gd p 2).rows),.l ([]++(gd p 3).rows),.l ([]++(gd p 4).rows),.l [],.l [],.l [],gd p 8]
  nd o0.isSome (nd (o0.code==2) (nd (lenOk ([]++(gd o0.pay 19).rows)&&true) (nd (lenOk ([]++(gd o0.pay 20).rows)&&true) (some (1,[gd o0.pay 31,gd o0.pay 32,gd o0.pay 33,gd o0.pay 34,gd o0.pay 35,gd o0.pay 36,.l ([]++(gd o0.pay 19).rows),.l ([]++(gd o0.pay 20).rows),gd o0.pay 39]))))))))))):=by kernel_rfl
def s_l13CopyE:Ent:=(61,e1 (ag rIShard) fun p=>(⟨.one (.agg [.d si,.d (.sl 41),.d (.sl 41),.d (.sl 108),.d (.sl 93),.d (.sl 75),.d (.sl 3),.d (.sl 3),.d si]),sub (dupShard p) 0 9⟩,dupOk p))
theorem s_l13Copy_ok:EntOk Tryz.prog s_l13CopyE:=e1_ok fun p h=>evFn_sound (N:=(gd p 5).rows.length+1) (ks:=s_l13CopyK) (key:=bo) s_l13CopyT_ok (enters Tryz.func61) Tryz.func61 fun hw=>by
 rw [s_l13Copy_ev]
 have h:dupOk p=true:=h
 unfold dupOk at h
 simp only [Bool.and_eq_true] at h
 obtain ⟨h1,h2,h3,h4,h5,h6,h7,h8⟩:=h
 have hw:∀ k,k<(gd p 5).rows.length→leI ((gd ((gd p 5).rows.getD k []) 1).rows.length:Int) 1000000=true:=fun k hk=>List.all_eq_true.1 h8 k (List.mem_range.2 hk)
 simp only [leI,decide_eq_true_eq] at h1 h2 h3 h4 h5 h6 h7 hw
 have q1:lenOk (gd p 1).rows=true:=lenOk_t (by omega)
 have q2:lenOk (gd p 2).rows=true:=lenOk_t (by omega)
 have q3:lenOk (gd p 3).rows=true:=lenOk_t (by omega)
 have q4:lenOk (gd p 4).rows=true:=lenOk_t (by omega)
 have q6:lenOk (gd p 6).rows=true:=lenOk_t (by omega)
 have q7:lenOk (gd p 7).rows=true:=lenOk_t (by omega)
 simp only [q1,q2,q3,q4,List.nil_append,Bool.and_self,nd_true]
 have e:=run_loop (L:=s_l13CopyL0 ((gd p 5).rows.length+1) p) (fun k => [gd p 0,gd p 1,gd p 2,gd p 3,gd p 4,gd p 5,gd p 6,gd p 7,gd p 8,.i 0,.i 0,.i 0,.i (k:Int),gd p 0,gd p 1,gd p 2,gd p 3,gd p 4,gd p 5,gd p 6,gd p 7,gd p 8,.i 0,.l [],.l [],.l [],.l [],.l [],.l [],.l [],.i 0,gd p 0,.l ((gd p 1).rows),.l ((gd p 2).rows),.l ((gd p 3).rows),.l ((gd p 4).rows),.l (kpL (fun _=>true) (fun k => [gd ((gd p 5).rows.getD k []) 0,.l (gd ((gd p 5).rows.getD k []) 1).rows]) k),.l [],.l [],gd p 8]) (gd p 5).rows.length 0 (fun k hk=>?_) ?_ (N:=(gd p 5).rows.length+1) (by omega)
 ·simp only [Int.natCast_zero,show kpL (fun _=>true) (fun k => [gd ((gd p 5).rows.getD k []) 0,.l (gd ((gd p 5).rows.getD k []) 1).rows]) 0 = [] from rfl] at e
  rw [e]
  show some (bo,nd (lenOk ([]++(gd p 6).rows)&&true) (nd (lenOk ([]++(gd p 7).rows)&&true) (some (1,[gd p 0,.l (gd p 1).rows,.l (gd p 2).rows,.l (gd p 3).rows,.l (gd p 4).rows,.l (kpL (fun _=>true) (fun k => [gd ((gd p 5).rows.getD k []) 0,.l (gd ((gd p 5).rows.getD k []) 1).rows]) (gd p 5).rows.length),.l ([]++(gd p 6).rows),.l ([]++(gd p 7).rows),gd p 8]))))=_
  simp only [List.nil_append,q6,q7,Bool.and_self,nd_true]
  rfl
 ·show s_l13CopyL0 _ p [_,_,_,_,_,_,_,_,_,_,_,_,.i (k:Int),_,_,_,_,_,_,_,_,_,_,_,_,_,_,_,_,_,_,_,_,_,_,_,_,_,_,_]=_
  rw [s_l13CopyR0]
  have hk1:=hw k hk
  have hlen:=kpL_len (fun _=>true) (fun k => [gd ((gd p 5).rows.getD k []) 0,.l (gd ((gd p 5).rows.getD k []) 1).rows]) k
  have l1:lenOk (gd ((gd p 5).rows.getD k []) 1).rows=true:=lenOk_t (by omega)
  have l2:lenOk (kpL (fun _=>true) (fun k => [gd ((gd p 5).rows.getD k []) 0,.l (gd ((gd p 5).rows.getD k []) 1).rows]) k ++ [[gd ((gd p 5).rows.getD k []) 0,D.l (gd ((gd p 5).rows.getD k []) 1).rows]])=true:=lenOk_t (by rw [List.length_append]; show _+1≤_; omega)
  simp only [int_i,rows_l,c_lt hk,nd_ix hk,Int.toNat_natCast,w64_succ hk (show (gd p 5).rows.length≤9223372036854775807 by omega),List.nil_append,l1,l2,Bool.and_self,nd_true]
  rfl
 ·show s_l13CopyL0 _ p [_,_,_,_,_,_,_,_,_,_,_,_,.i ((gd p 5).rows.length:Int),_,_,_,_,_,_,_,_,_,_,_,_,_,_,_,_,_,_,_,_,_,_,_,_,_,_,_]=_
  rw [s_l13CopyR0]
  simp only [int_i,c_nlt]
end Go.Proofs.YtpdfmcmnjikppaaGreat
namespace Go.Proofs.YtpdfmcmnjikppaaGreat
set_option maxRecDepth 4096
set_option maxHeartbeats 1000000
def noShard:List D:= [.i 0,.l [],.l [],.l [],.l [],.l [],.l [],.l [],.i 0]
end Go.Proofs.YtpdfmcmnjikppaaGreat
namespace Go.Proofs.YtpdfmcmnjikppaaGreat
set_option maxRecDepth 4096
set_option maxHeartbeats 1000000
def ndN:Nat→Bool→Out→Out
 | 0,_,x=>x
 | n+1,c,x=>nd c (ndN n c x)
theorem ndN_true {x:Out}:∀ n,ndN n true x=x
 | 0=>rfl
 | n+1=>by rw [ndN,ndN_true n]; rfl
def lastHi (rs:List (List D)):Int:=(gd (rs.getD (rs.length - 1) []) 1).int
def addR (rs:List (List D)) (lo hi:Int):List (List D):=
 bif ltI 0 (rs.length:Int)&&(lastHi rs==lo) then rs.set (rs.length - 1) [gd (rs.getD (rs.length - 1) []) 0,.i hi] else rs ++ [[.i lo,.i hi]]
theorem getD_set_at {l:List (List D)} {i:Nat} {x:List D} (h:i<l.length):(l.set i x).getD i []=x:=by
 simp [List.getD_eq_getElem?_getD,List.getElem?_set,h]
theorem getD_app_at (l:List (List D)) (x:List D):(l ++ [x]).getD l.length []=x:=by
 simp [List.getD_eq_getElem?_getD]
structure PartsW (z:D):Prop where
 lo:∀ k,k<z.rows.length→(gd (z.rows.getD k []) 0).int=(endD z k).int
 lt:∀ k,k<z.rows.length→(endD z k).int<(endD z (k+1)).int
 n:z.rows.length≤16
 e:(endD z z.rows.length).int=1000
theorem PartsW.mono {z:D} (h:PartsW z):∀ m k,k+m≤z.rows.length→(endD z k).int≤(endD z (k+m)).int
 | 0,k,_=>Int.le_refl _
 | m+1,k,hk=>by
  have:=h.mono m k (by omega)
  have h2:=h.lt (k+m) (by omega)
  rw [show k+(m+1)=k+m+1 from by omega]
  omega
def addQ (rs:List (List D)) (lo hi:D):List (List D):=
 bif ltI 0 (rs.length:Int)&&(lastHi rs==lo.int) then rs.set (rs.length - 1) [gd (rs.getD (rs.length - 1) []) 0,hi] else rs ++ [[lo,hi]]
def SameI (a b:List (List D)):Prop:=a.length=b.length∧∀ i j,(gd (a.getD i []) j).int=(gd (b.getD i []) j).int
theorem SameI.add {a b:List (List D)} (h:SameI a b) (lo hi:D):SameI (addQ a lo hi) (addR b lo.int hi.int):=by
 unfold addQ addR
 have e:lastHi a=lastHi b:=by unfold lastHi; rw [h.1]; exact h.2 _ _
 rw [e,h.1]
 cases (ltI 0 (b.length:Int)&&(lastHi b==lo.int))
 ·refine ⟨by simp [h.1],fun i j=>?_⟩
  simp only [cond_false]
  by_cases hi':i<b.length
  ·have q1:(a ++ [[lo,hi]]).getD i []=a.getD i []:=by simp [List.getD_eq_getElem?_getD,List.getElem?_append_left (show i<a.length by rw [h.1]; exact hi')]
   have q2:(b ++ [[D.i lo.int,D.i hi.int]]).getD i []=b.getD i []:=by simp [List.getD_eq_getElem?_getD,List.getElem?_append_left hi']
   rw [q1,q2]; exact h.2 i j
  ·by_cases hi2:i=b.length
   ·subst hi2
    rw [getD_app_at,← h.1,getD_app_at]
    match j with
    | 0=>rfl
    | 1=>rfl
    | j+2=>rfl
   ·have q1:(a ++ [[lo,hi]]).getD i [] = []:=by rw [List.getD_eq_getElem?_getD,List.getElem?_eq_none (by have:=h.1; rw [List.length_append,this]; show b.length+1≤i; omega)]; rfl
    have q2:(b ++ [[D.i lo.int,D.i hi.int]]).getD i [] = []:=by rw [List.getD_eq_getElem?_getD,List.getElem?_eq_none (by simp; omega)]; rfl
    rw [q1,q2]
 ·refine ⟨by simp [h.1],fun i j=>?_⟩
  simp only [cond_true]
  by_cases hi':i=b.length - 1∧i<b.length
  ·obtain ⟨rfl,hlt⟩:=hi'
   rw [getD_set_at hlt,getD_set_at (by rw [h.1]; exact hlt)]
   match j with
   | 0=>exact h.2 _ _
   | 1=>rfl
   | j+2=>rfl
  ·have q:∀ (l:List (List D)) (y:List D),l.length=b.length→(l.set (b.length - 1) y).getD i []=l.getD i []:=fun l y hl=>by
    simp only [List.getD_eq_getElem?_getD,List.getElem?_set]
    split
    ·split
     ·exact absurd ⟨by omega,by omega⟩ hi'
     ·rw [List.getElem?_eq_none (by omega)]
    ·rfl
   rw [q a _ h.1,q b _ rfl]
   exact h.2 i j
end Go.Proofs.YtpdfmcmnjikppaaGreat
namespace Go.Proofs.YtpdfmcmnjikppaaGreat
set_option maxRecDepth 4096
set_option maxHeartbeats 1000000
end Go.Proofs.YtpdfmcmnjikppaaGreat
namespace Go.Proofs.YtpdfmcmnjikppaaGreat
set_option maxRecDepth 4096
set_option maxHeartbeats 1000000
end Go.Proofs.YtpdfmcmnjikppaaGreat
namespace Go.Proofs.YtpdfmcmnjikppaaGreat
set_option maxRecDepth 4096
set_option maxHeartbeats 1000000
end Go.Proofs.YtpdfmcmnjikppaaGreat
namespace Go.Proofs.YtpdfmcmnjikppaaGreat
set_option maxRecDepth 4096
set_option maxHeartbeats 1000000
abbrev i_cmpnanT:FuncId→List T→Option (T × Bool):=find []
theorem i_cmpnanT_ok:CallOk Tryz.prog i_cmpnanT:=find_ok (fN)
abbrev i_cmpnanK:List Nat:= [0,2]
theorem i_cmpnan_ev (N:Nat) (p:List D):evFn Tryz.prog i_cmpnanT N i_cmpnanK Tryz.f255 rb [⟨ri,p⟩]=some (bo,
 ob ((gd p 0).int != (gd p 0).int)):=by kernel_rfl
def i_cmpnanE:Ent:=(255,e1 ri fun p=>(⟨rb,[.b false]⟩,true))
theorem i_cmpnan_ok:EntOk Tryz.prog i_cmpnanE:=e1_ok fun p h=>evFn_sound (N:=0) (ks:=i_cmpnanK) (key:=bo) i_cmpnanT_ok (enters Tryz.func255) Tryz.func255 fun hw=>by
 rw [i_cmpnan_ev]
 rw [show ((gd p 0).int != (gd p 0).int)=false from bne_self_eq_false _]
abbrev i_slnanT:FuncId→List T→Option (T × Bool):=find []
theorem i_slnanT_ok:CallOk Tryz.prog i_slnanT:=find_ok (fN)
abbrev i_slnanK:List Nat:= [0,2]
theorem i_slnan_ev (N:Nat) (p:List D):evFn Tryz.prog i_slnanT N i_slnanK Tryz.f215 rb [⟨ri,p⟩]=some (bo,
 ob ((gd p 0).int != (gd p 0).int)):=by kernel_rfl
def i_slnanE:Ent:=(215,e1 ri fun p=>(⟨rb,[.b false]⟩,true))
theorem i_slnan_ok:EntOk Tryz.prog i_slnanE:=e1_ok fun p h=>evFn_sound (N:=0) (ks:=i_slnanK) (key:=bo) i_slnanT_ok (enters Tryz.func215) Tryz.func215 fun hw=>by
 rw [i_slnan_ev]
 rw [show ((gd p 0).int != (gd p 0).int)=false from bne_self_eq_false _]
abbrev i_cmplessT:FuncId→List T→Option (T × Bool):=find [i_cmpnanE]
theorem i_cmplessT_ok:CallOk Tryz.prog i_cmplessT:=find_ok (fC ⟨i_cmpnan_ok,fN⟩)
abbrev i_cmplessK:List Nat:= [0,1,4]
theorem i_cmpless_ev (N:Nat) (p q:List D):evFn Tryz.prog i_cmplessT N i_cmplessK Tryz.f214 rb [⟨ri,p⟩,⟨ri,q⟩]=some (bo,
 bif false then bif !false then ob true
 else ob (ltI (gd p 0).int (gd q 0).int)
 else ob (ltI (gd p 0).int (gd q 0).int)):=by kernel_rfl
def i_cmplessE:Ent:=(214,e2 ri ri fun p q=>(⟨rb,[.b (ltI (gd p 0).int (gd q 0).int)]⟩,true))
theorem i_cmpless_ok:EntOk Tryz.prog i_cmplessE:=e2_ok fun p q h=>evFn_sound (N:=0) (ks:=i_cmplessK) (key:=bo) i_cmplessT_ok (enters Tryz.func214) Tryz.func214 fun hw=>by
 rw [i_cmpless_ev]
 rfl
abbrev i_bsT:FuncId→List T→Option (T × Bool):=find [i_cmplessE,i_slnanE]
theorem i_bsT_ok:CallOk Tryz.prog i_bsT:=find_ok (fC ⟨i_cmpless_ok,fC ⟨i_slnan_ok,fN⟩⟩)
abbrev i_bsK:List Nat:= [0,1,4,5,6,7,8,9,15,27]
noncomputable def i_bsL0 (N:Nat) (p q:List D):List D→Out:=loopOf Tryz.prog i_bsT N i_bsK Tryz.f116 (.tup [.c (.d si),.c (.d (.bool))]) [⟨sd (.sl 3),p⟩,⟨ri,q⟩] 0
theorem i_bsR0 (N:Nat) (p q:List D) (x0 x1 x2 x3 x4 x5 x6:D):(i_bsL0 N p q) [x0,x1,x2,x3,x4,x5,x6] =
 bif ltI x5.int x6.int then nd (leI 0 1) (nd (inRange (w64 ((IntKind.u64.wrap (w64 (x5.int+x6.int))).fdiv (2 ^ (min 1 64)))) x0.rows.length) (bif ltI (gd (x0.rows.getD (w64 ((IntKind.u64.wrap (w64 (x5.int+x6.int))).fdiv (2 ^ (min 1 64)))).toNat []) 0).int x1.int then nx [x0,x1,x2,x3,x4,.i (w64 ((w64 ((IntKind.u64.wrap (w64 (x5.int+x6.int))).fdiv (2 ^ (min 1 64))))+1)),x6]
 else nx [x0,x1,x2,x3,x4,x5,.i (w64 ((IntKind.u64.wrap (w64 (x5.int+x6.int))).fdiv (2 ^ (min 1 64))))]))
 else ex 0 [x0,x1,x2,x3,x4,x5,x6]:=by kernel_rfl
noncomputable def i_bss0 (N:Nat) (p q:List D) (o0:Out):Out:=nd (inRange (gd o0.pay 5).int (gd o0.pay 0).rows.length) (bif false then some (1,[gd o0.pay 5,.b false]) else some (1,[gd o0.pay 5,.b false]))
noncomputable def i_bss1 (N:Nat) (p q:List D) (o0:Out):Out:=bif (gd ((gd o0.pay 0).rows.getD (gd o0.pay 5).int.toNat []) 0).int==(gd o0.pay 1).int then some (1,[gd o0.pay 5,.b true]) else (i_bss0 N p q o0)
noncomputable def i_bss2 (N:Nat) (p q:List D) (o0:Out):Out:=bif ltI (gd o0.pay 5).int (gd o0.pay 4).int then nd (inRange (gd o0.pay 5).int (gd o0.pay 0).rows.length) (i_bss1 N p q o0) else some (1,[gd o0.pay 5,.b false])
noncomputable def i_bss3 (N:Nat) (p q:List D):Out:=let o0:Out:=iter (i_bsL0 N p q) N [gd p 0,gd q 0,.i 0,.i 0,.i ((gd p 0).rows.length:Int),.i 0,.i ((gd p 0).rows.length:Int)]; nd o0.isSome (nd (o0.code==2) (i_bss2 N p q o0))
theorem i_bs_ev (N:Nat) (p q:List D):evFn Tryz.prog i_bsT N i_bsK Tryz.f116 (.tup [.c (.d si),.c (.d (.bool))]) [⟨sd (.sl 3),p⟩,⟨ri,q⟩]=some (bo,(i_bss3 N p q)):=by kernel_rfl
theorem asc_key {z:D} (h:(numsOf z).Pairwise (· < ·)) {i j:Nat} (hij:i<j) (hj:j<z.rows.length):keyAt z i<keyAt z j:=by
 have h1:=numsOf_at z i (by omega)
 have h2:=numsOf_at z j hj
 obtain ⟨l1,e1⟩:=List.getElem?_eq_some_iff.1 h1
 obtain ⟨l2,e2⟩:=List.getElem?_eq_some_iff.1 h2
 have:=List.pairwise_iff_getElem.1 h i j l1 l2 hij
 rwa [e1,e2] at this
theorem low_ex {z:D} (h:(numsOf z).Pairwise (· < ·)) (t:Int):∀ m,m≤z.rows.length→∃ i,i≤m∧(∀ k,k<i→keyAt z k<t)∧∀ k,i≤k→k<m→t≤keyAt z k
 | 0,_=>⟨0,Nat.le_refl _,fun k hk=>absurd hk (Nat.not_lt_zero _),fun k _ hk=>absurd hk (Nat.not_lt_zero _)⟩
 | m+1,hm=>by
  obtain ⟨i,h1,h2,h3⟩:=low_ex h t m (by omega)
  by_cases hi:i<m
  ·refine ⟨i,by omega,h2,fun k hk1 hk2=>?_⟩
   rcases Nat.lt_or_ge k m with h4 | h4
   ·exact h3 k hk1 h4
   ·obtain rfl:k=m:=by omega
    have a1:=h3 i (Nat.le_refl _) hi
    have a2:=asc_key h hi (show k<z.rows.length by omega)
    omega
  ·obtain rfl:i=m:=by omega
   by_cases hc:keyAt z i<t
   ·refine ⟨i+1,Nat.le_refl _,fun k hk=>?_,fun k hk1 hk2=>by omega⟩
    rcases Nat.lt_or_ge k i with h4 | h4
    ·exact h2 k h4
    ·obtain rfl:k=i:=by omega
     exact hc
   ·refine ⟨i,by omega,h2,fun k hk1 hk2=>?_⟩
    obtain rfl:k=i:=by omega
    omega
theorem low_at {z:D} (h:(numsOf z).Pairwise (· < ·)) (t:Int):lowN z t≤z.rows.length∧(∀ k,k<lowN z t→keyAt z k<t)∧∀ k,lowN z t≤k→k<z.rows.length→t≤keyAt z k:=by
 obtain ⟨i,h1,h2,h3⟩:=low_ex h t _ (Nat.le_refl _)
 rw [lowN_eq h1 h2 h3]
 exact ⟨h1,h2,h3⟩
theorem i_bs_loop (p q:List D) (N:Nat) (hz:(numsOf (gd p 0)).Pairwise (· < ·)) (hlen:(gd p 0).rows.length≤40000):∀ (d i j M:Nat),j=i+d→j≤(gd p 0).rows.length→d<M→(∀ k,k<i→keyAt (gd p 0) k<(gd q 0).int)→(∀ k,j≤k→k<(gd p 0).rows.length→(gd q 0).int≤keyAt (gd p 0) k) →
  iter (i_bsL0 N p q) M [gd p 0,gd q 0,.i 0,.i 0,.i ((gd p 0).rows.length:Int),.i (i:Int),.i (j:Int)]=some (2,[gd p 0,gd q 0,.i 0,.i 0,.i ((gd p 0).rows.length:Int),.i (lowN (gd p 0) (gd q 0).int:Int),.i (lowN (gd p 0) (gd q 0).int:Int)]):=by
 intro d
 induction d using Nat.strongRecOn with
 | _ d ih =>
 intro i j M hj hn hM h1 h2
 obtain ⟨M,rfl⟩:∃ M',M=M'+1:=⟨M - 1,by omega⟩
 rw [iter,i_bsR0]
 simp only [int_i]
 by_cases hd:d=0
 ·subst hd
  obtain rfl:j=i:=by omega
  rw [c_nlt,lowN_eq hn h1 h2]
  rfl
 ·rw [c_lt (show i<j from by omega)]
  have hh:(i+j) / 2<(gd p 0).rows.length:=by omega
  simp only [halfW (show i+j≤100000 from by omega),nd_ix hh,Int.toNat_natCast,show leI 0 1=true from rfl,nd_true]
  rw [show (gd ((gd p 0).rows.getD ((i+j) / 2) []) 0).int=keyAt (gd p 0) ((i+j) / 2) from rfl]
  by_cases hc:keyAt (gd p 0) ((i+j) / 2)<(gd q 0).int
  ·rw [ltI_t hc,cond_true]
   simp only [w64_succ hh (show (gd p 0).rows.length≤9223372036854775807 from by omega)]
   exact ih (j - ((i+j) / 2+1)) (by omega) ((i+j) / 2+1) j M (by omega) hn (by omega) (fun k hk'=>by
    rcases Nat.lt_or_ge k ((i+j) / 2) with h | h
    ·have:=asc_key hz h hh; omega
    ·obtain rfl:k=(i+j) / 2:=by omega
     exact hc) h2
  ·rw [ltI_f (show (gd q 0).int≤keyAt (gd p 0) ((i+j) / 2) from by omega),cond_false]
   exact ih ((i+j) / 2 - i) (by omega) i ((i+j) / 2) M (by omega) (by omega) (by omega) h1 (fun k hk1 hk2=>by
    rcases Nat.lt_or_ge ((i+j) / 2) k with h | h
    ·have:=asc_key hz h hk2; omega
    ·obtain rfl:k=(i+j) / 2:=by omega
     omega)
def i_bsE:Ent:=(116,e2 (sd (.sl 3)) ri fun p q=>(⟨.tup [.c (.d si),.c (.d (.bool))],[.i (lowN (gd p 0) (gd q 0).int:Int),.b (bsB (gd p 0) (gd q 0).int)]⟩,ascB (gd p 0)&&leI ((gd p 0).rows.length:Int) 40000))
theorem i_bs_ok:EntOk Tryz.prog i_bsE:=e2_ok fun p q h=>evFn_sound (N:=(gd p 0).rows.length+1) (ks:=i_bsK) (key:=bo) i_bsT_ok (enters Tryz.func116) Tryz.func116 fun hw=>by
 rw [i_bs_ev]
 have h:(ascB (gd p 0)&&leI ((gd p 0).rows.length:Int) 40000)=true:=h
 simp only [Bool.and_eq_true,leI,decide_eq_true_eq] at h
 have hz:=asc_of h.1
 have hlen:(gd p 0).rows.length≤40000:=by have:=h.2; omega
 have e:=i_bs_loop p q ((gd p 0).rows.length+1) hz hlen (gd p 0).rows.length 0 (gd p 0).rows.length ((gd p 0).rows.length+1) (by omega) (Nat.le_refl _) (by omega) (fun k hk=>absurd hk (Nat.not_lt_zero _)) (fun k h1 h2=>absurd h2 (by omega))
 simp only [Int.natCast_zero] at e
 unfold i_bss3
 rw [e]
 show some (bo,bif ltI (lowN (gd p 0) (gd q 0).int:Int) ((gd p 0).rows.length:Int) then nd (inRange (lowN (gd p 0) (gd q 0).int:Int) (gd p 0).rows.length) (bif keyAt (gd p 0) (Int.toNat (lowN (gd p 0) (gd q 0).int:Int))==(gd q 0).int then some (1,[.i (lowN (gd p 0) (gd q 0).int:Int),.b true]) else nd (inRange (lowN (gd p 0) (gd q 0).int:Int) (gd p 0).rows.length) (some (1,[.i (lowN (gd p 0) (gd q 0).int:Int),.b false]))) else some (1,[.i (lowN (gd p 0) (gd q 0).int:Int),.b false]))=_
 rw [Int.toNat_natCast]
 unfold bsB
 by_cases hb:lowN (gd p 0) (gd q 0).int<(gd p 0).rows.length
 ·rw [ltI_nat hb,inRange_nat hb]
  cases keyAt (gd p 0) (lowN (gd p 0) (gd q 0).int)==(gd q 0).int <;> rfl
 ·rw [ltI_f (show ((gd p 0).rows.length:Int)≤(lowN (gd p 0) (gd q 0).int:Int) from by omega)]
  rfl
end Go.Proofs.YtpdfmcmnjikppaaGreat
namespace Go.Proofs.YtpdfmcmnjikppaaGreat.HI
open Go.RowKit Go.Lib Go.Proofs.YtpdfmcmnjikppaaGreat.H
set_option maxRecDepth 100000
set_option maxHeartbeats 4000000
abbrev zi:Value:=.int .i64 0
theorem info_int:(Tryz.prog.info? 3).map (fun i=>(i.zero,i.size,i.bytes))=some (some zi,1,8):=by kernel_rfl
theorem ins_shift (b off n c i k vb voff vc:Nat) (cs vs:List Value) (w:World) (hk:k=i+1) (hi:i<n) (hroom:n+1≤c) (hc63:c≤9223372036854775807) (hvb:vb≠b)
  (hcl:cs.length=n) (hvl:vs.length=1)
  (hcs:∀ j v,cs[j]?=some v→w.cell? ⟨b,off+j,none⟩=some v) (hsp:∀ j,j<(n+1)→(w.cell? ⟨b,off+j,none⟩).isSome=true) (hfz:∀ j,j<(n+1)→w.frozen? ⟨b,off+j,none⟩=false)
  (hvs:∀ j v,vs[j]?=some v→w.cell? ⟨vb,voff+j,none⟩=some v) (h1c:∀ v∈cs,v.oneCell'=true) (h1v:∀ v∈vs,v.oneCell'=true)
  (tA tB:TypeId) (kA kB:Nat) (hsa:w.shape? vb=some (tA,kA)) (hsb:w.shape? b=some (tB,kB)) (hkB:kB≠0) (hfa:w.frozen? ⟨vb,voff,none⟩=false) (hfe:w.frozen? ⟨vb,kA,none⟩=false) :
  Calls Tryz.prog 195 #[.slice (some ⟨b,off,none⟩) n c,.int .i64 i,.slice (some ⟨vb,voff,none⟩) 1 vc] w fun e w' =>
   e=.returned (.slice (some ⟨b,off,none⟩) (n+1) c)∧w'=(w.drew.setCells b (off+k) (cs.drop (i))).setCells b (off+i) vs:=by
 obtain ⟨i0,hi0,hz0,hzs,hzb⟩:=info_parts info_int
 have mixed:Tryz.prog.follows .mixedOrders=true:=by kernel_rfl
 have hz2:¬ ((i:Int)=(n:Int)):=by omega
 have hsz:(Tryz.prog.info? 3).map (·.size)=some 1:=by rw [hi0]; simp [hzs]
 have u41:=Tryz.underlying26
 have hov:∀ lb cb,(callFunc 250 #[.slice (some ⟨vb,voff,none⟩) 1 vc,.slice (some ⟨b,off+k,none⟩) lb cb]).run Tryz.prog w=.ok (.value (.bool false)) w:=fun lb cb=>by
  rw [run_callFunc_extern Tryz.func250 (by kernel_rfl) (by kernel_rfl) (by kernel_rfl) (e:=Extern.SlicesOverlaps.overlaps #[26,26] #[4]) (by kernel_rfl),
   Lib.run_overlaps_apart w 26 4 3 u41 1 Tryz.sizeOf3 ⟨vb,voff,none⟩ ⟨b,off+k,none⟩ 1 vc lb cb hvb tA tB kA kB hsa hsb hkB hfa hfe]
  rfl
 have hdl:(cs.drop (i)).length=(n - i):=by rw [List.length_drop,hcl]
 have hcp1:∀ ty dc sc,(Builtin.copy_ #[26,26] ty #[.slice (some ⟨b,off+k,none⟩) (n+1 - k) dc,.slice (some ⟨b,off+i,none⟩) (n+1 - i) sc]).run Tryz.prog w.drew=.ok (goInt ((n - i:Nat):Int)) (w.drew.setCells b (off+k) (cs.drop (i))):=fun ty dc sc =>
  run_copy2 w.drew _ _ ty 3 1 b (off+k) (n - i) (n+1 - k) dc ⟨b,off+i,none⟩ (n+1 - i) sc (cs.drop (i)) u41 hsz (by simp only [Nat.min_def]; split <;> omega) (hdl.trans (Nat.mul_one _).symm)
   (fun j v hj=>by rw [Addr.add_lit,Nat.add_assoc]; exact hcs (i+j) v (by rwa [List.getElem?_drop] at hj))
   (fun j hj=>by rw [hdl] at hj; rw [Nat.add_assoc]; exact hsp _ (by omega)) (fun j hj=>by rw [hdl] at hj; rw [Nat.add_assoc]; exact hfz _ (by omega)) (fun v hv=>h1c v (List.mem_of_mem_drop hv))
 obtain ⟨W1,hW1⟩:∃ W1,W1=w.drew.setCells b (off+k) (cs.drop (i)):=⟨_,rfl⟩
 have hsp1:∀ t,t<(n+1)→(W1.cell? ⟨b,off+t,none⟩).isSome=true:=fun t ht=>by
  rw [hW1]
  exact isSome_set b _ _ _ (fun j hj=>by rw [hdl] at hj; rw [Nat.add_assoc]; exact hsp _ (by omega)) _ (hsp t ht)
 have hcp2:∀ (W:World),(∀ x,W.cell? x=W1.cell? x)→(∀ x,W.frozen? x=W1.frozen? x)→∀ ty dc,(Builtin.copy_ #[26,26] ty #[.slice (some ⟨b,off+i,none⟩) (n+1 - i) dc,.slice (some ⟨vb,voff,none⟩) 1 vc]).run Tryz.prog W=.ok (goInt 1) (W.setCells b (off+i) vs):=fun W hWc hWf ty dc =>
  run_copy2 W _ _ ty 3 1 b (off+i) 1 (n+1 - i) dc ⟨vb,voff,none⟩ 1 vc vs u41 hsz (by simp only [Nat.min_def]; split <;> omega) (by rw [hvl])
   (fun j v hj=>by
    rw [Addr.add_lit,hWc,hW1,World.cell?_setCells_out b _ _ _ _ (fun h _=>absurd h hvb)]
    exact hvs j v hj)
   (fun j hj=>by rw [hvl] at hj; rw [hWc,Nat.add_assoc]; exact hsp1 _ (by omega)) (fun j hj=>by rw [hvl] at hj; rw [hWf,hW1,World.frozen?_setCells,Nat.add_assoc]; exact hfz _ (by omega)) h1v
 have hE:Hid (W1=w.drew.setCells b (off+k) (cs.drop (i))):=hW1
 rw [← hW1] at hcp1
 have hw1:IntKind.i64.wrap ((n:Int)+1)=((n+1:Nat):Int):=by rw [IntKind.wrap_i64]; omega
 have hw2:IntKind.i64.wrap ((i:Int)+1)=(k:Int):=by rw [IntKind.wrap_i64]; omega
 have hnc:¬ ((n:Int)+1 > (c:Int)):=by omega
 have hb2:¬ (c=k):=by omega
 have hb4:¬ (c=i):=by omega
 have hin:i≤n:=by omega
 have hkn:(k:Int)≤(n:Int)+1:=by omega
 have hin2:(i:Int)≤(n:Int)+1:=by omega
 have hin1:i≤n+1:=by omega
 clear hsp hfz hcs hvs hsp1 hW1 hsa hsb hfa hfe hk hdl
 go_enter Tryz.func195,Tryz.ntmps195
 go_wp2_with (simp only [hov])
 go_region_law_o (refine step_copy_runI rfl _ _ 26 26 rfl _ _ (by simp [Act.eval,Act.put]) (by simp [Act.eval,Act.put]) (hcp1 _ _ _) ?_)
 go_wp2_with (at_builtin; refine wpList_copy_runI _ rfl _ _ 26 26 rfl _ _ rfl rfl (hcp2 _ (fun _=>rfl) (fun _=>rfl) _ _) ?_)
 go_ret
 exact ⟨rfl,by rw [hE.out]⟩
theorem ins_end (base:Option Addr) (n c vb voff vc:Nat) (w w1:World) (v':Value) (hnc:n≤c) (hc63:c≤9223372036854775807) (hb:base=none→c=0) (hr:∀ ty,(Builtin.append_ #[26,26] ty #[.slice base n c,.slice (some ⟨vb,voff,none⟩) 1 vc]).run Tryz.prog w=.ok v' w1) :
  Calls Tryz.prog 195 #[.slice base n c,.int .i64 n,.slice (some ⟨vb,voff,none⟩) 1 vc] w fun e w'=>e=.returned v'∧w'=w1:=by
 have mixed:Tryz.prog.follows .mixedOrders=true:=by kernel_rfl
 cases base with
 | none =>
  have h0:=hb rfl
  subst h0
  obtain rfl:n=0:=by omega
  go_enter Tryz.func195,Tryz.ntmps195
  go_wp2_with (at_builtin; refine Lib.wpList_append_run _ rfl _ _ _ _ rfl _ _ rfl rfl _ _ (hr _) ?_)
  all_goals (go_ret; exact ⟨rfl,rfl⟩)
 | some a =>
  obtain ⟨ab,ao,asp⟩:=a
  go_enter Tryz.func195,Tryz.ntmps195
  go_wp2_with (at_builtin; refine Lib.wpList_append_run _ rfl _ _ _ _ rfl _ _ rfl rfl _ _ (hr _) ?_)
  all_goals (go_ret; exact ⟨rfl,rfl⟩)
theorem ins_grow (b off n i k vb voff vc:Nat) (cs vs:List Value) (w:World) (hk:k=i+1) (hi:i<n) (hbig:(n+1)*8≤140737488355328)
  (hcl:cs.length=n) (hvl:vs.length=1)
  (hcs:∀ j v,cs[j]?=some v→w.cell? ⟨b,off+j,none⟩=some v)
  (hvs:∀ j v,vs[j]?=some v→w.cell? ⟨vb,voff+j,none⟩=some v) (h1c:∀ v∈cs,v.oneCell'=true) (h1v:∀ v∈vs,v.oneCell'=true) :
  Calls Tryz.prog 195 #[.slice (some ⟨b,off,none⟩) n n,.int .i64 i,.slice (some ⟨vb,voff,none⟩) 1 vc] w fun e w' =>
   e=.returned (.slice (some ⟨w.heap.size,0,none⟩) (n+1) (grownCap w (n+1) n 3)) ∧
   w'=(((w.alloc (.cells ((cs.take (i)).toArray++Builtin.zeroCells zi.cells (n+1 - i)++Builtin.zeroCells zi.cells (grownCap w (n+1) n 3 - (n+1))) 3)).drew.setCells w.heap.size (i) vs).drew).setCells w.heap.size (k) (cs.drop (i)):=by
 obtain ⟨i0,hi0,hz0,hzs,hzb⟩:=info_parts info_int
 have mixed:Tryz.prog.follows .mixedOrders=true:=by kernel_rfl
 have u41:=Tryz.underlying26
 have u3:=Tryz.underlying3
 have hz2:¬ ((i:Int)=(n:Int)):=by omega
 have hsz:(Tryz.prog.info? 3).map (·.size)=some 1:=by rw [hi0]; simp [hzs]
 have hbw:b<w.heap.size:=block_lt_of_cell (hcs 0 _ (List.getElem?_eq_getElem (by omega)))
 have hvw:vb<w.heap.size:=block_lt_of_cell (hvs 0 _ (List.getElem?_eq_getElem (by omega)))
 have hik:i+(n+1 - i)=n+1:=by omega
 have hold:(Builtin.firstCells i0.size i (.slice (some ⟨b,off,none⟩) i n)).run Tryz.prog w.drew=.ok (cs.take (i)).toArray w.drew:=by
  rw [hzs]
  exact run_firstCells_some w.drew 1 i ⟨b,off,none⟩ i n (cs.take (i)) (by rw [List.length_take]; omega) (fun j v hj=>by
   rw [Addr.add_lit]
   rw [List.getElem?_take] at hj
   split at hj
   ·exact hcs j v hj
   ·cases hj)
 have hkk:IntKind.i64.wrap (((n+1:Nat):Int) - (i:Int))=((n+1 - i:Nat):Int):=by rw [IntKind.wrap_i64]; omega
 have hrz:∀ ty,(Builtin.append_ #[26,3] ty #[.slice (some ⟨b,off,none⟩) i n,.int .i64 ((n+1 - i:Nat):Int)]).run Tryz.prog w =
   .ok (.slice (some ⟨w.heap.size,0,none⟩) (n+1) (grownCap w (n+1) n 3)) (w.drew.alloc (.cells ((cs.take (i)).toArray++Builtin.zeroCells zi.cells (n+1 - i)++Builtin.zeroCells zi.cells (grownCap w (n+1) n 3 - (n+1))) 3)):=fun ty=>by
  have h:=Lib.run_append_grow_zeros w 26 3 ty 3 i0 zi .i64 .i64 u41 u3 hi0 hz0 (some ⟨b,off,none⟩) i n (cs.take (i)) hold (n+1 - i) (by omega) (by omega) (by omega) (by omega) (by rw [hzb]; omega) (by rw [hzb,hik]; exact growslice_fits (by omega) hbig)
  rw [hik] at h
  exact h
 obtain ⟨G,hG⟩:∃ G,G=grownCap w (n+1) n 3:=⟨_,rfl⟩
 obtain ⟨ROW,hROW⟩:∃ ROW:Array Value,ROW=(cs.take (i)).toArray++Builtin.zeroCells zi.cells (n+1 - i)++Builtin.zeroCells zi.cells (G - (n+1)):=⟨_,rfl⟩
 rw [← hG] at hrz ⊢
 rw [← hROW] at hrz ⊢
 have hRl:(n+1)≤ROW.size:=by
  rw [hROW]
  simp [Builtin.zeroCells,Value.cells,hcl]
  omega
 obtain ⟨W1,hW1⟩:∃ W1,W1=w.drew.alloc (.cells ROW 3):=⟨_,rfl⟩
 rw [← hW1] at hrz
 have hN:∀ j,j<(n+1)→(W1.cell? ⟨w.heap.size,j,none⟩).isSome=true:=fun j hj=>by
  rw [hW1,World.cell?_alloc_at (w:=w.drew) ROW _ w.heap.size j rfl,Array.getElem?_eq_getElem (by omega)]; rfl
 have hNf:∀ j,W1.frozen? ⟨w.heap.size,j,none⟩=false:=fun j=>by rw [hW1]; exact World.frozen?_alloc_at (w:=w.drew) ROW _ w.heap.size j rfl
 have hOb:∀ j v,w.cell? ⟨b,j,none⟩=some v→W1.cell? ⟨b,j,none⟩=some v:=fun j v h=>by rw [hW1,World.cell?_alloc_past (w:=w.drew) _ b j hbw]; exact h
 have hOv:∀ j v,w.cell? ⟨vb,j,none⟩=some v→W1.cell? ⟨vb,j,none⟩=some v:=fun j v h=>by rw [hW1,World.cell?_alloc_past (w:=w.drew) _ vb j hvw]; exact h
 have hcpA:∀ (W:World),(∀ x,W.cell? x=W1.cell? x)→(∀ x,W.frozen? x=W1.frozen? x)→∀ ty dc,(Builtin.copy_ #[26,26] ty #[.slice (some ⟨w.heap.size,i,none⟩) (n+1 - i) dc,.slice (some ⟨vb,voff,none⟩) 1 vc]).run Tryz.prog W=.ok (goInt 1) (W.setCells w.heap.size (i) vs):=fun W hWc hWf ty dc =>
  run_copy2 W _ _ ty 3 1 w.heap.size (i) 1 (n+1 - i) dc ⟨vb,voff,none⟩ 1 vc vs u41 hsz (by simp only [Nat.min_def]; split <;> omega) (by rw [hvl])
   (fun j v hj=>by rw [Addr.add_lit,hWc]; exact hOv _ v (hvs j v hj))
   (fun j hj=>by rw [hvl] at hj; rw [hWc]; exact hN _ (by omega)) (fun j hj=>by rw [hWf]; exact hNf _) h1v
 have hGn:n+1≤G:=by rw [hG]; exact grownCap_ge w _ _ _
 have hG63:G≤9223372036854775807:=by
  have:=grownCap_le_maxLen w (n+1) n 3 (by unfold maxLen; omega)
  rw [← hG] at this
  unfold maxLen at this
  omega
 have hbN:b≠w.heap.size:=by omega
 have hdl:(cs.drop (i)).length=(n - i):=by rw [List.length_drop,hcl]
 have hcpB:∀ (W:World),(∀ x,W.cell? x=(W1.setCells w.heap.size (i) vs).cell? x)→(∀ x,W.frozen? x=(W1.setCells w.heap.size (i) vs).frozen? x)→∀ ty dc sc,(Builtin.copy_ #[26,26] ty #[.slice (some ⟨w.heap.size,k,none⟩) (n+1 - k) dc,.slice (some ⟨b,off+i,none⟩) (n - i) sc]).run Tryz.prog W=.ok (goInt ((n - i:Nat):Int)) (W.setCells w.heap.size (k) (cs.drop (i))):=fun W hWc hWf ty dc sc =>
  run_copy2 W _ _ ty 3 1 w.heap.size (k) (n - i) (n+1 - k) dc ⟨b,off+i,none⟩ (n - i) sc (cs.drop (i)) u41 hsz (by simp only [Nat.min_def]; split <;> omega) (hdl.trans (Nat.mul_one _).symm)
   (fun j v hj=>by
    rw [Addr.add_lit,hWc,World.cell?_setCells_out _ _ _ _ _ (fun h _=>absurd h hbN),Nat.add_assoc]
    exact hOb _ v (hcs (i+j) v (by rwa [List.getElem?_drop] at hj)))
   (fun j hj=>by rw [hdl] at hj; rw [hWc]; exact isSome_set _ _ _ _ (fun t ht=>by rw [hvl] at ht; exact hN _ (by omega)) _ (hN _ (by omega)))
   (fun j hj=>by rw [hWf,World.frozen?_setCells]; exact hNf _) (fun v hv=>h1c v (List.mem_of_mem_drop hv))
 subst hW1
 have hE1:∀ x,((w.alloc (.cells ROW 3)).drew).cell? x=(w.drew.alloc (.cells ROW 3)).cell? x:=fun x=>rfl
 have hE2:∀ x,((w.alloc (.cells ROW 3)).drew).frozen? x=(w.drew.alloc (.cells ROW 3)).frozen? x:=fun x=>rfl
 have hF1:∀ x,(((w.alloc (.cells ROW 3)).drew.setCells w.heap.size (i) vs).drew).cell? x=((w.drew.alloc (.cells ROW 3)).setCells w.heap.size (i) vs).cell? x:=fun x=>rfl
 have hF2:∀ x,(((w.alloc (.cells ROW 3)).drew.setCells w.heap.size (i) vs).drew).frozen? x=((w.drew.alloc (.cells ROW 3)).setCells w.heap.size (i) vs).frozen? x:=fun x=>rfl
 have hw1:IntKind.i64.wrap ((n:Int)+1)=((n+1:Nat):Int):=by rw [IntKind.wrap_i64]; omega
 have hw2:IntKind.i64.wrap ((i:Int)+1)=(k:Int):=by rw [IntKind.wrap_i64]; omega
 have hw3:IntKind.i64.wrap ((n:Int)+1 - (i:Int))=((n+1 - i:Nat):Int):=by rw [IntKind.wrap_i64]; omega
 have hw4:(n:Int)+1 - (i:Int)=((n+1 - i:Nat):Int):=by omega
 have hgt:(n:Int)+1 > (n:Int):=by omega
 have hci:¬ (n=i):=by omega
 have hGi:¬ (G=i):=by omega
 have hGk:¬ (G=k):=by omega
 have hin:i≤n:=by omega
 have hinZ:(i:Int)≤(n:Int):=by omega
 have hknZ:(k:Int)≤(n:Int)+1:=by omega
 have hinZ1:(i:Int)≤(n:Int)+1:=by omega
 clear hold hROW hG hRl hik hk
 go_enter Tryz.func195,Tryz.ntmps195
 go_wp2_with (first
  | (at_builtin; refine Lib.wpList_append_run _ rfl _ _ _ _ rfl _ _ rfl rfl _ _ (hrz _) ?_)
  | (at_builtin; refine wpList_copy_runI _ rfl _ _ 26 26 rfl _ _ rfl rfl (hcpA _ hE1 hE2 _ _) ?_))
 go_region_law_o (refine step_copy_runI rfl _ _ 26 26 rfl (.slice (some ⟨w.heap.size,k,none⟩) (n+1 - k) (G - k)) (.slice (some ⟨b,off+i,none⟩) (n - i) (n - i)) (by simp [Act.eval,Act.put]) (by simp [Act.eval,Act.put]) (hcpB _ hF1 hF2 3 (G - k) (n - i)) ?_)
 go_wp2
 go_ret
 exact ⟨rfl,rfl⟩
end Go.Proofs.YtpdfmcmnjikppaaGreat.HI
